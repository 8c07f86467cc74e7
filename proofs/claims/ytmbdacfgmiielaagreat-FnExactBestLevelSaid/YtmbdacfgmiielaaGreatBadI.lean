/-
  Contract of the program's BadReads.
-/
import Derived.Test.YtmbdacfgmiielaaGreatGBadK25
namespace Go.Proofs.YtmbdacfgmiielaaGreat
set_option linter.unusedSimpArgs false
set_option linter.unusedVariables false
set_option maxRecDepth 100000
open Go.RowKit

/-- cutting a slice of one's own to its length -/
theorem own2_end {w w0 : World} {base : Nat} {e : TypeId} {v : Value} {xs : List T2} (h : Own2 w base e v xs) (hb : w0.heap.size ≤ base) (hE : Ext w0 w) : (∃ c, v = .slice none 0 c ∧ xs = []) ∨ ∃ g c, v = .slice (some ⟨g, 0, none⟩) xs.length c ∧ xs.length ≤ c ∧ c ≤ 9223372036854775807 ∧ ∀ c', FreshP xs w0 (.returned (.slice (some ⟨g, 0, none⟩) xs.length c')) w := by
  obtain ⟨A', c', rfl, hle', hm', hA0, hA1⟩ := h.cut
  obtain ⟨A2, c2, he2, hA2, hf2, _⟩ := h.fresh hb hE
  unfold maxLen at hm'
  rcases A' with _ | a
  · obtain ⟨h0, rfl⟩ := hA0 rfl
    exact .inl ⟨0, by rw [h0], List.eq_nil_of_length_eq_zero h0⟩
  · obtain ⟨g, rfl⟩ := hA1 a rfl
    cases he2
    exact .inr ⟨g, c', rfl, hle', by omega, fun c' => ⟨_, _, rfl, hA2, hf2, hE⟩⟩
set_option maxHeartbeats 4000000 in
theorem implBadReads_own (h : List TxnT) (S : Nat → Prop) (A : Option Addr) (c : Nat) (w : World) (hx : Txns S w A h) (hsm : Small h) (hv : histv h = true) :
    Calls Tryz.prog 89 #[.slice A h.length c, .int .i64 4] w (FreshP (bdH h 4 h.length) w) := by
  have C := fun w hx => implHistoryValid_c h S A c w hx hsm
  have hn := histv_len hv
  have hnn := histv_nn hv
  rw [hv] at C
  have C := Lib.hid C
  have hmem := fun n => dnT_mem (h := h) (k := h.length) (n := n)
  have hdn := bdD_dn h 4 h.length
  have hdl := dnT_len h h.length
  have hbl := bdH_len h 4
  have hbs := bdH_small hsm 4
  have CD := fun w hx => done_c h S A c w hx hsm
  have hmk := run_make_zero Tryz.underlying87 info2
  have hdk : ∀ k, k ≤ (dnT h h.length).length → (bdD h 4 ((dnT h h.length).take k)).length ≤ 1048576 := fun k hk => by
    have h1 := hbs
    rw [← hdn] at h1
    unfold bdD at h1 ⊢
    conv at h1 => rw [← List.take_append_drop k (dnT h h.length), List.flatMap_append, List.length_append]
    omega
  generalize bdH h 4 h.length = LL at hdn hbs ⊢
  generalize dnT h h.length = D at CD hmem hdn hdl hdk
  have CD := Lib.hid CD
  have HM := Lib.hid hmem
  have HD := Lib.hid hdn
  have HDL := Lib.hid hdl
  have HDK := Lib.hid hdk
  have HN := Lib.hid hnn
  clear hmem hdn hdl hv hbl hdk hnn
  go_enter Tryz.func89, Tryz.ntmps89
  go_wp2_with (fail)
  go_at_call 43
  refine (C.out _ (hx.ext (by (repeat' (first | (with_reducible exact Below.refl _ _) | (with_reducible refine Below.mono (by assumption) ?_) | (with_reducible refine Below.trans ?_ (Below.mono (by assumption) ?_)) | (with_reducible refine Below.alloc ?_ ?_ _) | (with_reducible refine Below.drew ?_) | (with_reducible refine below_drewN ?_ _) | (with_reducible refine Below.setCell ?_ ?_ _) | (simp only [World.size_alloc, World.size_setCell, World.size_drew, size_drewN]; omega) | omega))))).mono ?_
  rintro e w1 ⟨rfl, hb⟩
  obtain ⟨hc, hf, hz, hs⟩ := bcell hb
  (try simp only [World.size_alloc, World.size_setCell, World.size_drew, size_drewN] at hs); (first | have l0 := Nat.lt_of_lt_of_le l0 (show _ ≤ w1.heap.size by omega) | have l0 : w.heap.size < w1.heap.size := (by omega) | skip); (try have l0e := Nat.le_of_lt l0); (try have l0f := Nat.le_add_right_of_le (k := 1) l0e); (try have l1 := Nat.lt_of_lt_of_le l1 (show _ ≤ w1.heap.size by omega)); (try have l1e := Nat.le_of_lt l1); (try have l1f := Nat.le_add_right_of_le (k := 1) l1e); (try have l2 := Nat.lt_of_lt_of_le l2 (show _ ≤ w1.heap.size by omega)); (try have l2e := Nat.le_of_lt l2); (try have l2f := Nat.le_add_right_of_le (k := 1) l2e); (try have l3 := Nat.lt_of_lt_of_le l3 (show _ ≤ w1.heap.size by omega)); (try have l3e := Nat.le_of_lt l3); (try have l3f := Nat.le_add_right_of_le (k := 1) l3e)
  have e1 : Ext w w1 := hb
  have z1 := e1.size
  clear hc hf hz hs hb
  go_wp2_with (fail)
  refine (within_c 4 1 4 _).mono ?_
  rintro e w' ⟨rfl, rfl⟩
  go_wp2_with (fail)
  have e2 : Ext w1 (w1.alloc (.cells #[] 114)) := by (repeat' (first | (with_reducible exact Below.refl _ _) | (with_reducible refine Below.mono (by assumption) ?_) | (with_reducible refine Below.trans ?_ (Below.mono (by assumption) ?_)) | (with_reducible refine Below.alloc ?_ ?_ _) | (with_reducible refine Below.drew ?_) | (with_reducible refine below_drewN ?_ _) | (with_reducible refine Below.setCell ?_ ?_ _) | (simp only [World.size_alloc, World.size_setCell, World.size_drew, size_drewN]; omega) | omega))
  have hO : Own2 (w1.alloc (.cells #[] 114)) w1.heap.size 114 (.slice (some ⟨w1.heap.size, 0, none⟩) 0 0) (bdD h 4 (D.take 0)) := Own2.made w1 _ 0 rfl (by omega) (by omega) (by simp)
  clear hmk
  go_at_call 51
  refine (CD.out _ (hx.ext (e1.tr e2))).mono ?_
  rintro e w3 ⟨A3, c3, rfl, hD, hfD, hb⟩
  have e3 : Ext w1 w3 := e2.tr hb
  have hown := hO.ext hb
  have hD3 := hD.within_hi
  have zz2 : w1.heap.size + 1 ≤ w3.heap.size := by have := hb.size; simpa using this
  simp only [World.size_alloc] at hD3
  have hoff : Off (.slice (some ⟨w1.heap.size, 0, none⟩) 0 0) (w1.heap.size + 1) w3.heap.size := fun g hg => by
    simp only [Value.ownBlock] at hg
    cases hg
    omega
  clear hO hD hfD hb e2
  go_wp2
  go_loopw [5, 22] (fun v i wr => ∃ k : Nat, k ≤ D.length ∧ i = .int .i64 k ∧ Own2 wr w1.heap.size 114 v (bdD h 4 (D.take k)) ∧ Ext w1 wr ∧ Ints (fun b => w1.heap.size + 1 ≤ b ∧ b < w3.heap.size) wr A3 D ∧ Off v (w1.heap.size + 1) w3.heap.size ∧ w3.heap.size ≤ wr.heap.size) (fun _ i _ => D.length - (intOf i).toNat)
  case atStart => exact ⟨0, Nat.zero_le _, rfl, hown, e3, hD3, hoff, Nat.le_refl _⟩
  case round =>
    obtain ⟨k, hk, rfl, hown4, hE4, hD4, hoff4, hz4⟩ := hrel
    obtain ⟨wo, rfl⟩ : ∃ wo : World, wo = wr := ⟨_, rfl⟩
    have hdl := HDL.out
    clear hown hD3 hoff
    by_cases hlt : k < D.length
    · obtain ⟨x, bd, offd, hxk, rfl, _, hbd, cd⟩ := hD4.at_ hlt
      obtain ⟨m, t, rfl, hm, hmt, hmd⟩ := HM.out x (List.mem_of_getElem? hxk)
      have hE40 := e1.tr hE4
      obtain ⟨s, ops, d, A', cap, b, off, hxm, rfl, _, hb0, hOp, c0, c1, c2⟩ := (hx.ext hE40).at_ hm
      rw [hmt] at hxm
      cases hxm
      have hon := hsm.ops hmt
      simp only at hon
      have hsn : bdD h 4 (D.take (k + 1)) = bdD h 4 (D.take k) ++ oeT m ops ops.length := by
        rw [List.take_add_one, hxk]
        exact (bdD_snoc hmt).trans (by rw [bdT, if_pos rfl])
      have hvn : ∀ o ∈ ops, 0 ≤ o.c := HN.out _ (List.mem_of_getElem? hmt)
      have hdk := HDK.out k (by omega)
      have hll := oeT_len m ops ops.length
      have HS := Lib.hid hsn
      have HV := Lib.hid hvn
      clear hxk hmt hmd hsn hvn
      have hz40 := hE4.size
      go_wp2_with (first
        | (go_at_call 111; refine (ownErrors_c m ⟨s, ops, d⟩ _ _ _ _ (hOp.ext (by (repeat' (first | (with_reducible exact Below.refl _ _) | (with_reducible refine Below.mono (by assumption) ?_) | (with_reducible refine Below.trans ?_ (Below.mono (by assumption) ?_)) | (with_reducible refine Below.alloc ?_ ?_ _) | (with_reducible refine Below.drew ?_) | (with_reducible refine below_drewN ?_ _) | (with_reducible refine Below.setCell ?_ ?_ _) | (simp only [World.size_alloc, World.size_setCell, World.size_drew, size_drewN]; omega) | omega)))) hon HV.out).mono ?_; rintro e w5 ⟨u, rfl, hu, hb⟩; have e5 : Ext wo w5 := (by (repeat' (first | (with_reducible exact Below.refl _ _) | (with_reducible refine Below.mono (by assumption) ?_) | (with_reducible refine Below.trans ?_ (Below.mono (by assumption) ?_)) | (with_reducible refine Below.alloc ?_ ?_ _) | (with_reducible refine Below.drew ?_) | (with_reducible refine below_drewN ?_ _) | (with_reducible refine Below.setCell ?_ ?_ _) | (simp only [World.size_alloc, World.size_setCell, World.size_drew, size_drewN]; omega) | omega))); have z5 := e5.size)
        | (at_builtin; refine wpList_append2s_at _ rfl _ _ 87 rfl w1.heap.size 114 Tryz.underlying87 info2 rfl _ (bdD h 4 (D.take k)) rfl (hown4.ext e5) u _ (oeT m ops ops.length) rfl hu ?_ ?_ ?_))
      · omega
      · omega
      · intro v' w' hown' hgrow hat
        rw [← HS.out] at hown'
        have hE7 : Ext w1 w' := Below.grown (hE4.tr e5) hgrow (hE4.tr e5).size (fun g hg => own2_block hown4 g hg)
        have hD7 := Ints.off (hD4.ext e5) hgrow hoff4
        have hoff7 := hoff4.step hat (by omega)
        have hz7 := hgrow.size
        clear hown4 hu hgrow hat hD4
        go_wp2
        go_roundw
        case measure => simp [intOf]; omega
        case rel => exact ⟨k + 1, by omega, by go_num, hown', hE7, hD7, hoff7, by omega⟩
    · obtain rfl : k = D.length := by omega
      rw [List.take_length, HD.out] at hown4
      rcases own2_end hown4 z1 (e1.tr hE4) with ⟨c', rfl, h0⟩ | ⟨g, c', rfl, hle, hm, hF⟩
      · subst h0
        go_wp2
        go_ret
        exact FreshP.nil _ _ (e1.tr hE4)
      · have HF := Lib.hid hF
        clear hF
        go_wp2
        go_ret
        exact HF.out _
set_option maxHeartbeats 4000000 in
theorem implBadReads_kind (h : List TxnT) (S : Nat → Prop) (A : Option Addr) (c : Nat) (kind : Int) (w : World) (hx : Txns S w A h) (hsm : Small h) (hv : histv h = true) (hkb : inB kind 1 4 = true) (hk4 : kind ≠ 4) :
    Calls Tryz.prog 89 #[.slice A h.length c, .int .i64 kind] w (FreshP (bdH h kind h.length) w) := by
  have C := fun w hx => implHistoryValid_c h S A c w hx hsm
  have hn := histv_len hv
  have C6 := fun n o w hx => badKind_c h S A c n o w hx hsm hv
  have C6 := Lib.hid C6
  have b4 : (kind == 4) = false := by simpa using hk4
  have HK4 := Lib.hid hk4
  have CK := fun w => within_c kind 1 4 w
  rw [hkb] at CK
  have CK := Lib.hid CK
  rw [hv] at C
  have C := Lib.hid C
  have hmem := fun n => dnT_mem (h := h) (k := h.length) (n := n)
  have hdn := bdD_dn h kind h.length
  have hdl := dnT_len h h.length
  have hbl := bdH_len h kind
  have hbs := bdH_small hsm kind
  have CD := fun w hx => done_c h S A c w hx hsm
  have hmk := run_make_zero Tryz.underlying87 info2
  have hdk : ∀ k, k ≤ (dnT h h.length).length → (bdD h kind ((dnT h h.length).take k)).length ≤ 1048576 := fun k hk => by
    have h1 := hbs
    rw [← hdn] at h1
    unfold bdD at h1 ⊢
    conv at h1 => rw [← List.take_append_drop k (dnT h h.length), List.flatMap_append, List.length_append]
    omega
  generalize bdH h kind h.length = LL at hdn hbs ⊢
  generalize dnT h h.length = D at CD hmem hdn hdl hdk
  have CD := Lib.hid CD
  have HM := Lib.hid hmem
  have HD := Lib.hid hdn
  have HDL := Lib.hid hdl
  have HDK := Lib.hid hdk
  clear hmem hdn hdl hv hbl hdk hk4 hkb
  go_enter Tryz.func89, Tryz.ntmps89
  go_wp2_with (fail)
  go_at_call 43
  refine (C.out _ (hx.ext (by (repeat' (first | (with_reducible exact Below.refl _ _) | (with_reducible refine Below.mono (by assumption) ?_) | (with_reducible refine Below.trans ?_ (Below.mono (by assumption) ?_)) | (with_reducible refine Below.alloc ?_ ?_ _) | (with_reducible refine Below.drew ?_) | (with_reducible refine below_drewN ?_ _) | (with_reducible refine Below.setCell ?_ ?_ _) | (simp only [World.size_alloc, World.size_setCell, World.size_drew, size_drewN]; omega) | omega))))).mono ?_
  rintro e w1 ⟨rfl, hb⟩
  obtain ⟨hc, hf, hz, hs⟩ := bcell hb
  (try simp only [World.size_alloc, World.size_setCell, World.size_drew, size_drewN] at hs); (first | have l0 := Nat.lt_of_lt_of_le l0 (show _ ≤ w1.heap.size by omega) | have l0 : w.heap.size < w1.heap.size := (by omega) | skip); (try have l0e := Nat.le_of_lt l0); (try have l0f := Nat.le_add_right_of_le (k := 1) l0e); (try have l1 := Nat.lt_of_lt_of_le l1 (show _ ≤ w1.heap.size by omega)); (try have l1e := Nat.le_of_lt l1); (try have l1f := Nat.le_add_right_of_le (k := 1) l1e); (try have l2 := Nat.lt_of_lt_of_le l2 (show _ ≤ w1.heap.size by omega)); (try have l2e := Nat.le_of_lt l2); (try have l2f := Nat.le_add_right_of_le (k := 1) l2e); (try have l3 := Nat.lt_of_lt_of_le l3 (show _ ≤ w1.heap.size by omega)); (try have l3e := Nat.le_of_lt l3); (try have l3f := Nat.le_add_right_of_le (k := 1) l3e)
  have e1 : Ext w w1 := hb
  have z1 := e1.size
  clear hc hf hz hs hb
  go_wp2_with (fail)
  refine (CK.out _).mono ?_
  rintro e w' ⟨rfl, rfl⟩
  go_wp2_with (fail)
  have e2 : Ext w1 (w1.alloc (.cells #[] 114)) := by (repeat' (first | (with_reducible exact Below.refl _ _) | (with_reducible refine Below.mono (by assumption) ?_) | (with_reducible refine Below.trans ?_ (Below.mono (by assumption) ?_)) | (with_reducible refine Below.alloc ?_ ?_ _) | (with_reducible refine Below.drew ?_) | (with_reducible refine below_drewN ?_ _) | (with_reducible refine Below.setCell ?_ ?_ _) | (simp only [World.size_alloc, World.size_setCell, World.size_drew, size_drewN]; omega) | omega))
  have hO : Own2 (w1.alloc (.cells #[] 114)) w1.heap.size 114 (.slice (some ⟨w1.heap.size, 0, none⟩) 0 0) (bdD h kind (D.take 0)) := Own2.made w1 _ 0 rfl (by omega) (by omega) (by simp)
  clear hmk
  go_at_call 51
  refine (CD.out _ (hx.ext (e1.tr e2))).mono ?_
  rintro e w3 ⟨A3, c3, rfl, hD, hfD, hb⟩
  have e3 : Ext w1 w3 := e2.tr hb
  have hown := hO.ext hb
  have hD3 := hD.within_hi
  have zz2 : w1.heap.size + 1 ≤ w3.heap.size := by have := hb.size; simpa using this
  simp only [World.size_alloc] at hD3
  have hoff : Off (.slice (some ⟨w1.heap.size, 0, none⟩) 0 0) (w1.heap.size + 1) w3.heap.size := fun g hg => by
    simp only [Value.ownBlock] at hg
    cases hg
    omega
  clear hO hD hfD hb e2
  go_wp2
  go_loopw [5, 22] (fun v i wr => ∃ k : Nat, k ≤ D.length ∧ i = .int .i64 k ∧ Own2 wr w1.heap.size 114 v (bdD h kind (D.take k)) ∧ Ext w1 wr ∧ Ints (fun b => w1.heap.size + 1 ≤ b ∧ b < w3.heap.size) wr A3 D ∧ Off v (w1.heap.size + 1) w3.heap.size ∧ w3.heap.size ≤ wr.heap.size) (fun _ i _ => D.length - (intOf i).toNat)
  case atStart => exact ⟨0, Nat.zero_le _, rfl, hown, e3, hD3, hoff, Nat.le_refl _⟩
  case round =>
    obtain ⟨k, hk, rfl, hown4, hE4, hD4, hoff4, hz4⟩ := hrel
    obtain ⟨wo, rfl⟩ : ∃ wo : World, wo = wr := ⟨_, rfl⟩
    have hdl := HDL.out
    clear hown hD3 hoff
    by_cases hlt : k < D.length
    · obtain ⟨x, bd, offd, hxk, rfl, _, hbd, cd⟩ := hD4.at_ hlt
      obtain ⟨m, t, rfl, hm, hmt, hmd⟩ := HM.out x (List.mem_of_getElem? hxk)
      have hE40 := e1.tr hE4
      obtain ⟨s, ops, d, A', cap, b, off, hxm, rfl, _, hb0, hOp, c0, c1, c2⟩ := hx.at_ hm
      have f0 := hE40.keep hb0 c0
      have f1 := hE40.keep hb0 c1
      have f2 := hE40.keep hb0 c2
      rw [hmt] at hxm
      cases hxm
      have hon := hsm.ops hmt
      simp only at hon
      have hsn : bdD h kind (D.take (k + 1)) = bdD h kind (D.take k) ++ brT h kind m ops ops.length := by
        rw [List.take_add_one, hxk]
        exact (bdD_snoc hmt).trans (by rw [bdT, if_neg HK4.out])
      have hdk := HDK.out k (by omega)
      have HS := Lib.hid hsn
      clear hxk hmt hmd hsn
      have hz40 := hE4.size
      go_wp2
      go_loopw [5, 42] (fun v i wr => ∃ j : Nat, j ≤ ops.length ∧ i = .int .i64 j ∧ Own2 wr w1.heap.size 114 v (bdD h kind (D.take k) ++ brT h kind m ops j) ∧ Ext w1 wr ∧ Ints (fun b => w1.heap.size + 1 ≤ b ∧ b < w3.heap.size) wr (some ⟨bd, offd, none⟩) D ∧ Off v (w1.heap.size + 1) w3.heap.size ∧ w3.heap.size ≤ wr.heap.size) (fun _ i _ => ops.length - (intOf i).toNat)
      case atStart => exact ⟨0, Nat.zero_le _, rfl, by simpa [brT] using hown4, hE4, hD4, hoff4, hz4⟩
      case round =>
        obtain ⟨j, hj, rfl, hown6, hE6, hD6, hoff6, hz6⟩ := hrel
        have hE60 := e1.tr hE6
        have hz60 := hE6.size
        clear hown4 hD4 hoff4 cd f0 f1 f2
        by_cases hlt2 : j < ops.length
        · obtain ⟨x0, x1, x2, b2, off2, hyk, rfl, _, hb2, d0, d1, d2⟩ := hOp.at_ hlt2
          have q0 := hE60.keep hb2 d0
          have q1 := hE60.keep hb2 d1
          have q2 := hE60.keep hb2 d2
          have HY := Lib.hid hyk
          have hjl := brT_len h kind m ops j
          clear hyk
          go_wp2_with (fail)
          go_at_call 112
          refine (C6.out m ⟨x0, x1, x2⟩ _ (hx.ext (hE60.tr (by (repeat' (first | (with_reducible exact Below.refl _ _) | (with_reducible refine Below.mono (by assumption) ?_) | (with_reducible refine Below.trans ?_ (Below.mono (by assumption) ?_)) | (with_reducible refine Below.alloc ?_ ?_ _) | (with_reducible refine Below.drew ?_) | (with_reducible refine below_drewN ?_ _) | (with_reducible refine Below.setCell ?_ ?_ _) | (simp only [World.size_alloc, World.size_setCell, World.size_drew, size_drewN]; omega) | omega)))))).mono ?_
          rintro e w5 ⟨rfl, hb⟩
          have hEb : Ext wr w5 := by (repeat' (first | (with_reducible exact Below.refl _ _) | (with_reducible refine Below.mono (by assumption) ?_) | (with_reducible refine Below.trans ?_ (Below.mono (by assumption) ?_)) | (with_reducible refine Below.alloc ?_ ?_ _) | (with_reducible refine Below.drew ?_) | (with_reducible refine below_drewN ?_ _) | (with_reducible refine Below.setCell ?_ ?_ _) | (simp only [World.size_alloc, World.size_setCell, World.size_drew, size_drewN]; omega) | omega))
          have e7 := hE6.tr hEb
          have hown7 := hown6.ext hEb
          have hD7 := hD6.ext hEb
          have hz7 := hEb.size
          by_cases hke : k6 h m ⟨x0, x1, x2⟩ = kind
          · have hbe : (k6 h m ⟨x0, x1, x2⟩ == kind) = true := by simpa using hke
            have HA := Lib.hid (brT_hit HY.out hke)
            clear hke hown6 hD6 hb hEb
            generalize k6 h m ⟨x0, x1, x2⟩ = K6 at hbe
            go_wp2_with (at_builtin; refine wpList_append2_at _ rfl _ _ 87 rfl w1.heap.size 114 Tryz.underlying87 info2 rfl _ (bdD h kind (D.take k) ++ brT h kind m ops j) rfl (hown7.ext (by (repeat' (first | (with_reducible exact Below.refl _ _) | (with_reducible refine Below.mono (by assumption) ?_) | (with_reducible refine Below.trans ?_ (Below.mono (by assumption) ?_)) | (with_reducible refine Below.alloc ?_ ?_ _) | (with_reducible refine Below.drew ?_) | (with_reducible refine below_drewN ?_ _) | (with_reducible refine Below.setCell ?_ ?_ _) | (simp only [World.size_alloc, World.size_setCell, World.size_drew, size_drewN]; omega) | omega)))) _ m j rfl ?_ ?_ ?_ ?_ ?_)
            · simp
            · simp
            · rw [List.length_append]; omega
            · simp only [World.size_alloc]; omega
            · intro v' w' hown' hgrow hat
              try rw [List.append_assoc] at hown'
              rw [← HA.out] at hown'
              have hEc : Ext w5 (w5.alloc (.cells #[.int .i64 m, .int .i64 j] 114)) := by (repeat' (first | (with_reducible exact Below.refl _ _) | (with_reducible refine Below.mono (by assumption) ?_) | (with_reducible refine Below.trans ?_ (Below.mono (by assumption) ?_)) | (with_reducible refine Below.alloc ?_ ?_ _) | (with_reducible refine Below.drew ?_) | (with_reducible refine below_drewN ?_ _) | (with_reducible refine Below.setCell ?_ ?_ _) | (simp only [World.size_alloc, World.size_setCell, World.size_drew, size_drewN]; omega) | omega))
              have hE8 : Ext w1 w' := Below.grown (e7.tr hEc) hgrow (e7.tr hEc).size (fun g hg => own2_block hown7 g hg)
              have hD8 := Ints.off (hD7.ext hEc) hgrow hoff6
              have hoff8 := hoff6.step hat (by first | omega | (simp only [World.size_alloc]; omega))
              have hz8 := hgrow.size
              simp only [World.size_alloc] at hz8
              clear hown7 hgrow hat hD7
              go_wp2
              go_roundw
              case measure => simp [intOf]; omega
              case rel => exact ⟨j + 1, by omega, by go_num, hown', hE8, hD8, hoff8, by omega⟩
          · have hbe : (k6 h m ⟨x0, x1, x2⟩ == kind) = false := by simpa using hke
            have HA := Lib.hid (brT_miss HY.out hke)
            clear hke hown6 hD6 hb hEb
            generalize k6 h m ⟨x0, x1, x2⟩ = K6 at hbe
            go_wp2
            exact ⟨⟨j + 1, by omega, by go_num, by rw [HA.out]; exact hown7, e7, hD7, hoff6, by omega⟩, by simp [intOf]; omega⟩
        · obtain rfl : j = ops.length := by omega
          rw [← HS.out] at hown6
          go_wp2
          exact ⟨⟨k + 1, by omega, by go_num, hown6, hE6, hD6, hoff6, hz6⟩, by simp [intOf]; omega⟩
    · obtain rfl : k = D.length := by omega
      rw [List.take_length, HD.out] at hown4
      rcases own2_end hown4 z1 (e1.tr hE4) with ⟨c', rfl, h0⟩ | ⟨g, c', rfl, hle, hm, hF⟩
      · subst h0
        go_wp2
        go_ret
        exact FreshP.nil _ _ (e1.tr hE4)
      · have HF := Lib.hid hF
        clear hF
        go_wp2
        go_ret
        exact HF.out _
theorem implBadReads_bad (h : List TxnT) (S : Nat → Prop) (A : Option Addr) (c : Nat) (kind : Int) (w : World) (hx : Txns S w A h) (hsm : Small h) (hv : ¬ (histv h = true ∧ inB kind 1 4 = true)) :
    Calls Tryz.prog 89 #[.slice A h.length c, .int .i64 kind] w (FreshP [] w) := by
  have C := fun w hx => implHistoryValid_c h S A c w hx hsm
  have CK := fun w => within_c kind 1 4 w
  cases hh : histv h with
  | false =>
    rw [hh] at C
    clear hh hv CK
    have C := Lib.hid C
    go_enter Tryz.func89, Tryz.ntmps89
    go_wp2_with (fail)
    go_at_call 43
    refine (C.out _ (hx.ext (by (repeat' (first | (with_reducible exact Below.refl _ _) | (with_reducible refine Below.mono (by assumption) ?_) | (with_reducible refine Below.trans ?_ (Below.mono (by assumption) ?_)) | (with_reducible refine Below.alloc ?_ ?_ _) | (with_reducible refine Below.drew ?_) | (with_reducible refine below_drewN ?_ _) | (with_reducible refine Below.setCell ?_ ?_ _) | (simp only [World.size_alloc, World.size_setCell, World.size_drew, size_drewN]; omega) | omega))))).mono ?_
    rintro e w1 ⟨rfl, hb⟩
    obtain ⟨hc, hf, hz, hs⟩ := bcell hb
    (try simp only [World.size_alloc, World.size_setCell, World.size_drew, size_drewN] at hs); (first | have l0 := Nat.lt_of_lt_of_le l0 (show _ ≤ w1.heap.size by omega) | have l0 : w.heap.size < w1.heap.size := (by omega) | skip); (try have l0e := Nat.le_of_lt l0); (try have l0f := Nat.le_add_right_of_le (k := 1) l0e); (try have l1 := Nat.lt_of_lt_of_le l1 (show _ ≤ w1.heap.size by omega)); (try have l1e := Nat.le_of_lt l1); (try have l1f := Nat.le_add_right_of_le (k := 1) l1e); (try have l2 := Nat.lt_of_lt_of_le l2 (show _ ≤ w1.heap.size by omega)); (try have l2e := Nat.le_of_lt l2); (try have l2f := Nat.le_add_right_of_le (k := 1) l2e); (try have l3 := Nat.lt_of_lt_of_le l3 (show _ ≤ w1.heap.size by omega)); (try have l3e := Nat.le_of_lt l3); (try have l3f := Nat.le_add_right_of_le (k := 1) l3e)
    go_wp2
    go_ret
    exact FreshP.nil _ _ (by (repeat' (first | (with_reducible exact Below.refl _ _) | (with_reducible refine Below.mono (by assumption) ?_) | (with_reducible refine Below.trans ?_ (Below.mono (by assumption) ?_)) | (with_reducible refine Below.alloc ?_ ?_ _) | (with_reducible refine Below.drew ?_) | (with_reducible refine below_drewN ?_ _) | (with_reducible refine Below.setCell ?_ ?_ _) | (simp only [World.size_alloc, World.size_setCell, World.size_drew, size_drewN]; omega) | omega)))
  | true =>
    have hk : inB kind 1 4 = false := by
      cases hk : inB kind 1 4 with
      | false => rfl
      | true => exact absurd ⟨hh, hk⟩ hv
    rw [hh] at C
    rw [hk] at CK
    clear hh hv hk
    have C := Lib.hid C
    have CK := Lib.hid CK
    go_enter Tryz.func89, Tryz.ntmps89
    go_wp2_with (fail)
    go_at_call 43
    refine (C.out _ (hx.ext (by (repeat' (first | (with_reducible exact Below.refl _ _) | (with_reducible refine Below.mono (by assumption) ?_) | (with_reducible refine Below.trans ?_ (Below.mono (by assumption) ?_)) | (with_reducible refine Below.alloc ?_ ?_ _) | (with_reducible refine Below.drew ?_) | (with_reducible refine below_drewN ?_ _) | (with_reducible refine Below.setCell ?_ ?_ _) | (simp only [World.size_alloc, World.size_setCell, World.size_drew, size_drewN]; omega) | omega))))).mono ?_
    rintro e w1 ⟨rfl, hb⟩
    obtain ⟨hc, hf, hz, hs⟩ := bcell hb
    (try simp only [World.size_alloc, World.size_setCell, World.size_drew, size_drewN] at hs); (first | have l0 := Nat.lt_of_lt_of_le l0 (show _ ≤ w1.heap.size by omega) | have l0 : w.heap.size < w1.heap.size := (by omega) | skip); (try have l0e := Nat.le_of_lt l0); (try have l0f := Nat.le_add_right_of_le (k := 1) l0e); (try have l1 := Nat.lt_of_lt_of_le l1 (show _ ≤ w1.heap.size by omega)); (try have l1e := Nat.le_of_lt l1); (try have l1f := Nat.le_add_right_of_le (k := 1) l1e); (try have l2 := Nat.lt_of_lt_of_le l2 (show _ ≤ w1.heap.size by omega)); (try have l2e := Nat.le_of_lt l2); (try have l2f := Nat.le_add_right_of_le (k := 1) l2e); (try have l3 := Nat.lt_of_lt_of_le l3 (show _ ≤ w1.heap.size by omega)); (try have l3e := Nat.le_of_lt l3); (try have l3f := Nat.le_add_right_of_le (k := 1) l3e)
    go_wp2_with (fail)
    refine (CK.out _).mono ?_
    rintro e w' ⟨rfl, rfl⟩
    go_wp2
    go_ret
    exact FreshP.nil _ _ (by (repeat' (first | (with_reducible exact Below.refl _ _) | (with_reducible refine Below.mono (by assumption) ?_) | (with_reducible refine Below.trans ?_ (Below.mono (by assumption) ?_)) | (with_reducible refine Below.alloc ?_ ?_ _) | (with_reducible refine Below.drew ?_) | (with_reducible refine below_drewN ?_ _) | (with_reducible refine Below.setCell ?_ ?_ _) | (simp only [World.size_alloc, World.size_setCell, World.size_drew, size_drewN]; omega) | omega)))
theorem implBadReads_c (h : List TxnT) (S : Nat → Prop) (A : Option Addr) (c : Nat) (kind : Int) (w : World) (hx : Txns S w A h) (hsm : Small h) :
    Calls Tryz.prog 89 #[.slice A h.length c, .int .i64 kind] w (FreshP (bads h kind) w) := by
  unfold bads
  by_cases hc : histv h = true ∧ inB kind 1 4 = true
  · rw [if_pos hc]
    by_cases hk : kind = 4
    · subst hk; exact implBadReads_own h S A c w hx hsm hc.1
    · exact implBadReads_kind h S A c kind w hx hsm hc.1 hc.2 hk
  · rw [if_neg hc]; exact implBadReads_bad h S A c kind w hx hsm hc
end Go.Proofs.YtmbdacfgmiielaaGreat
