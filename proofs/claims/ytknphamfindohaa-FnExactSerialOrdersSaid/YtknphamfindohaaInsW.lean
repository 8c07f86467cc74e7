/-
  Contract of the program's SerialOrders.
-/
import Derived.Test.YtknphamfindohaaIns
import Derived.Deep.CutBlock
import Derived.Test.YtknphamfindohaaSesI
namespace Go.Proofs.Ytknphamfindohaa
set_option linter.unusedSimpArgs false
set_option linter.unusedVariables false
set_option maxRecDepth 100000
open Go.RowKit

theorem lws_opv {t : TxnT} (hv : ∀ o ∈ t.ops, opv o = true) {o : T3} (ho : o ∈ lwsTo t.ops 3) : ∃ y : Nat, o.b = y ∧ y < 3 := by
  have h1 := lws_below ho
  have h2 := (opv_parts (hv o (lws_ops ho))).2.1
  exact ⟨o.b.toNat, by omega, by omega⟩
theorem RI2.lower {lo lo' : Nat} {w : World} {A : Option Addr} {xs : List (List Int)} {f : Nat → Option Addr} (h : RI2 lo w A xs f) (hl : lo' ≤ lo) : RI2 lo' w A xs f := by
  refine ⟨fun i x hx => ?_, h.apart⟩
  obtain ⟨g, off, cap, rfl, h0, h1, h2, h3, h4⟩ := h.row i x hx
  refine ⟨g, off, cap, rfl, Nat.le_trans hl h0, h1, h2, h3, fun a ha => ?_⟩
  obtain ⟨h5, r⟩ := h4 a ha
  exact ⟨Nat.le_trans hl h5, r⟩
set_option maxHeartbeats 8000000 in
theorem installs_c (h : List TxnT) (ns : List Int) (S S' : Nat → Prop) (A B : Option Addr) (c d : Nat) (w : World) (hx : Txns S w A h) (hsm : Small h) (hi : Ints S' w B ns) (hn : ns.length ≤ 6) (hv : histv h = true) (hl7 : l7v ns (dnT h h.length) = true) :
    Calls Try.prog 55 #[.slice A h.length c, .slice B ns.length d] w (FreshRR [inD h 0 ns, inD h 1 ns, inD h 2 ns] w) := by
  have HX := Lib.hid hx
  have HI := Lib.hid hi
  have HHv := Lib.hid (histv_txn hv)
  have HL7 := Lib.hid hl7
  have hsl := hsm.len
  have HOn := Lib.hid (fun k s ops d (hk : h[k]? = some (⟨s, ops, d⟩ : TxnT)) => (hsm.ops hk : ops.length ≤ 1048576))
  have hmk : ∀ W : World, (Instr.makeSlice 24 (.int .i64 3) (.int .i64 3)).run Try.prog W = .ok (.slice (some ⟨W.heap.size, 0, none⟩) 3 3) (W.alloc (.cells #[.slice none 0 0, .slice none 0 0, .slice none 0 0] 40)) := fun W => by
    obtain ⟨i0, hi, hz0, hz1, hz2⟩ := info_parts infoRow
    have hq := run_make_rowN (P := Try.prog) 24 40 i0 _ Try.underlying24 hi hz0 .i64 .i64 3 3 (by omega) (by rw [hz2]; omega) (by omega) W
    rw [hz1, show madeCells (Value.slice none 0 0).cells (3 * 1) = #[.slice none 0 0, .slice none 0 0, .slice none 0 0] from by kernel_rfl] at hq
    exact hq
  clear hv hl7 hx hi
  go_enter Try.func55, Try.ntmps55
  go_wp2
  clear hmk
  have H0 := Lib.hid (show Ins (w.alloc (.cells #[.slice none 0 0, .slice none 0 0, .slice none 0 0] 40)) w.heap.size w.heap.size (fun _ => .slice none 0 0) (fun y => inD h (y : Int) (ns.take 0)) from
    ⟨Blk.new _ _ _, fun _ _ => Own1.nil, fun _ _ => by simp [Value.ownBlock], fun _ _ _ _ _ b hb => by simp [Value.ownBlock] at hb⟩)
  go_loopw [14] (fun i wr => ∃ (k : Nat) (f : Nat → Value), k ≤ ns.length ∧ i = .int .i64 k ∧ Ins wr w.heap.size w.heap.size f (fun y => inD h (y : Int) (ns.take k)) ∧ Ext w wr) (fun i _ => ns.length - (intOf i).toNat)
  case atStart => exact ⟨0, _, Nat.zero_le _, rfl, H0.out, by (repeat' (first | (with_reducible exact Below.refl _ _) | (with_reducible refine Below.mono (by assumption) ?_) | (with_reducible refine Below.trans ?_ (Below.mono (by assumption) ?_)) | (with_reducible refine Below.alloc ?_ ?_ _) | (with_reducible refine Below.drew ?_) | (with_reducible refine below_drewN ?_ _) | (with_reducible refine Below.setCell ?_ ?_ _) | (simp only [World.size_alloc, World.size_setCell, World.size_drew, size_drewN]; omega) | omega))⟩
  case round =>
    obtain ⟨k, f, hk, rfl, hins, hE⟩ := hrel
    have HIn := Lib.hid hins
    have HE := Lib.hid hE
    have hzE := hE.size
    have hgl := hins.blk.lt
    clear H0 hins hE
    by_cases hlt : k < ns.length
    · obtain ⟨n, b, off, hnk, rfl, _, hb0, c0⟩ := (HI.out.ext HE.out).at_ hlt
      obtain ⟨m, t, rfl, hml, htm, _⟩ := ser_mem HL7.out hnk
      obtain ⟨s, ops, dn, A', cap, b2, off2, hxk, rfl, _, hb20, hOp, d0, d1, d2⟩ := (HX.out.ext HE.out).at_ hml
      have hon := HOn.out m s ops dn hxk
      have hopv := txnv_opv (HHv.out _ (List.mem_of_getElem? hxk))
      have hkey : ∀ o ∈ lwsTo ops 3, ∃ y : Nat, o.b = y ∧ y < 3 := fun o ho => lws_opv (t := ⟨s, ops, dn⟩) hopv ho
      have hsn : ∀ y : Int, inD h y (ns.take (k + 1)) = inD h y (ns.take k) ++ kvs y (lwsTo ops 3) := fun y => by
        rw [List.take_add_one, hnk]
        exact inD_snoc hxk
      have hll := lwsTo_len ops 3
      have HS := Lib.hid hsn
      have HIl := Lib.hid (fun y : Int => inD_len h y (ns.take k))
      have HKl := Lib.hid (fun (y : Int) (q : Nat) => kvs_len y ((lwsTo ops 3).take q))
      have hmi : (m : Int) < h.length := by omega
      have hki : (k : Int) < ns.length := by omega
      have HOp := Lib.hid hOp
      clear hnk htm hxk hsn hOp hopv
      generalize hL : lwsTo ops 3 = L at hll hkey HS HKl
      have HL := Lib.hid hL
      have HKey := Lib.hid hkey
      clear hL hkey
      go_wp2_with (fail)
      go_at_call 67
      refine (lastWrites_c ⟨s, ops, dn⟩ _ _ _ _ (HOp.out.ext (by (repeat' (first | (with_reducible exact Below.refl _ _) | (with_reducible refine Below.mono (by assumption) ?_) | (with_reducible refine Below.trans ?_ (Below.mono (by assumption) ?_)) | (with_reducible refine Below.alloc ?_ ?_ _) | (with_reducible refine Below.drew ?_) | (with_reducible refine below_drewN ?_ _) | (with_reducible refine Below.setCell ?_ ?_ _) | (simp only [World.size_alloc, World.size_setCell, World.size_drew, size_drewN]; omega) | omega)))) hon).mono ?_
      rintro e w5 ⟨A5, c5, rfl, hW, hf5, hb⟩
      obtain ⟨hc, hf, hz, hs⟩ := bcell hb
      (try simp only [World.size_alloc, World.size_setCell, World.size_drew, size_drewN] at hs); (first | have l0 := Nat.lt_of_lt_of_le l0 (show _ ≤ w5.heap.size by omega) | have l0 : w.heap.size < w5.heap.size := (by omega) | skip); (try have l0e := Nat.le_of_lt l0); (try have l0f := Nat.le_add_right_of_le (k := 1) l0e); (try have l1 := Nat.lt_of_lt_of_le l1 (show _ ≤ w5.heap.size by omega)); (try have l1e := Nat.le_of_lt l1); (try have l1f := Nat.le_add_right_of_le (k := 1) l1e); (try have l2 := Nat.lt_of_lt_of_le l2 (show _ ≤ w5.heap.size by omega)); (try have l2e := Nat.le_of_lt l2); (try have l2f := Nat.le_add_right_of_le (k := 1) l2e); (try have l3 := Nat.lt_of_lt_of_le l3 (show _ ≤ w5.heap.size by omega)); (try have l3e := Nat.le_of_lt l3); (try have l3f := Nat.le_add_right_of_le (k := 1) l3e)
      rw [HL.out] at hW
      simp only [HL.out]
      have HW := Lib.hid hW.within_hi
      have HE5 := Lib.hid (HE.out.tr hb)
      have HI5 := Lib.hid (HIn.out.ext hb)
      have hz5 := hb.size
      have HOff := Lib.hid (show ∀ y, y < 3 → Off (f y) wr.heap.size w5.heap.size from fun y hy => Off.of_lt (own1_lt (HIn.out.own y hy)))
      clear hc hf hz hs hb hW hf5 d0 d1 d2 c0
      obtain ⟨wo, rfl⟩ : ∃ wo : World, wo = wr := ⟨_, rfl⟩
      go_wp2
      go_loopw [24] (fun i W => ∃ (q : Nat) (f' : Nat → Value), q ≤ L.length ∧ i = .int .i64 q ∧ Ins W w.heap.size w.heap.size f' (fun y => inD h (y : Int) (ns.take k) ++ kvs (y : Int) (L.take q)) ∧ (∀ y, y < 3 → Off (f' y) wo.heap.size w5.heap.size) ∧ Ext w W ∧ Ops (fun b => wo.heap.size ≤ b ∧ b < w5.heap.size) W A5 L ∧ w5.heap.size ≤ W.heap.size) (fun i _ => L.length - (intOf i).toNat)
      case atStart => exact ⟨0, f, Nat.zero_le _, rfl, by simpa [kvs] using HI5.out, HOff.out, HE5.out, HW.out, Nat.le_refl _⟩
      case round =>
        obtain ⟨q, f', hq, rfl, hI6, hoff6, hE6, hW6, hz6⟩ := hrel
        clear HI5 HW HOff
        have HI6 := Lib.hid hI6
        have HO6 := Lib.hid hoff6
        have HE6 := Lib.hid hE6
        have HW6 := Lib.hid hW6
        have hz60 := hE6.size
        clear hI6 hoff6 hE6
        by_cases hlt2 : q < L.length
        · obtain ⟨x0, x1, x2, b2', off2', hyk, rfl, _, hb2, g0, g1, g2⟩ := hW6.at_ hlt2
          obtain ⟨y, hy0, hy3⟩ := HKey.out _ (List.mem_of_getElem? hyk)
          simp only at hy0
          subst hy0
          have HK := Lib.hid (fun z : Int => kvs_take (key := z) hyk)
          have hyi : (y : Int) < 3 := by omega
          have hql : (q : Int) < L.length := by omega
          clear hyk hW6
          have hne : some w.heap.size ≠ (f' y).ownBlock := fun e => HI6.out.ne y hy3 e.symm
          have HNe := Lib.hid hne
          have cy0 := Lib.hid ((HI6.out.blk.cell y).trans (rw3_get _ hy3))
          have fy0 := Lib.hid (HI6.out.blk.frozen y)
          have hgl6 := HI6.out.blk.lt
          have cy : (wr.alloc (.cells #[.int .i64 x0, .int .i64 (y : Int), .int .i64 x2] 76)).cell? ⟨w.heap.size, y, none⟩ = some (f' y) := (World.cell?_alloc_lt _ _ _ hgl6).trans cy0.out
          have hlen : (inD h (y : Int) (ns.take k) ++ kvs (y : Int) (L.take q)).length ≤ 1048576 := by
            have h1 := HIl.out (y : Int)
            have h2 := HKl.out (y : Int) q
            rw [List.length_take] at h1 h2
            rw [List.length_append]
            omega
          have HLen := Lib.hid hlen
          have HC0 := Lib.hid (show ((wr.alloc (.cells #[.int .i64 x0, .int .i64 (y : Int), .int .i64 x2] 76)).alloc (.cells #[.int .i64 x2] 3)).drew.cell? ⟨wr.heap.size + 1, 0, none⟩ = some (.int .i64 x2) from by
            have := lit_at (wr.alloc (.cells #[.int .i64 x0, .int .i64 (y : Int), .int .i64 x2] 76)) #[.int .i64 x2] 3 0
            rw [World.size_alloc] at this
            exact this)
          have hEW : Ext wr ((wr.alloc (.cells #[.int .i64 x0, .int .i64 (y : Int), .int .i64 x2] 76)).alloc (.cells #[.int .i64 x2] 3)).drew := by (repeat' (first | (with_reducible exact Below.refl _ _) | (with_reducible refine Below.mono (by assumption) ?_) | (with_reducible refine Below.trans ?_ (Below.mono (by assumption) ?_)) | (with_reducible refine Below.alloc ?_ ?_ _) | (with_reducible refine Below.drew ?_) | (with_reducible refine below_drewN ?_ _) | (with_reducible refine Below.setCell ?_ ?_ _) | (simp only [World.size_alloc, World.size_setCell, World.size_drew, size_drewN]; omega) | omega))
          have HEW := Lib.hid hEW
          have HBase := Lib.hid (Nat.le_trans hz60 hEW.size)
          have hlb0 : ((wr.alloc (.cells #[.int .i64 x0, .int .i64 (y : Int), .int .i64 x2] 76)).alloc (.cells #[.int .i64 x2] 3)).drew.cell? ⟨wr.heap.size, 1, none⟩ = some (.int .i64 (y : Int)) := (Ext.keep (W := wr.alloc (.cells #[.int .i64 x0, .int .i64 (y : Int), .int .i64 x2] 76)) (Below.drew (Below.alloc (Below.refl _ _) (Nat.le_refl _) _)) (by simp) ((lit_at wr _ _ 1).trans rfl))
          have hlbl : wr.heap.size < ((wr.alloc (.cells #[.int .i64 x0, .int .i64 (y : Int), .int .i64 x2] 76)).alloc (.cells #[.int .i64 x2] 3)).drew.heap.size := by
            have e : ((wr.alloc (.cells #[.int .i64 x0, .int .i64 (y : Int), .int .i64 x2] 76)).alloc (.cells #[.int .i64 x2] 3)).drew.heap.size = wr.heap.size + 1 + 1 := by simp [World.size_drew]
            omega
          have hlbn : some wr.heap.size ≠ (f' y).ownBlock := fun e => by
            have := (World.ownsRow.lt (HI6.out.own y hy3) _ e.symm).2
            omega
          have HLb := Lib.hid (And.intro hlb0 (And.intro hlbl hlbn))
          have hkn := HK.out
          have hys : ∀ i : Nat, i < 3 → i ≠ y → inD h (i : Int) (ns.take k) ++ kvs (i : Int) (L.take (q + 1)) = inD h (i : Int) (ns.take k) ++ kvs (i : Int) (L.take q) := fun i _ hiy => by
            have e : ¬ ((y : Int) = (i : Int)) := by omega
            rw [hkn (i : Int), if_neg e]
          have hyy : inD h (y : Int) (ns.take k) ++ kvs (y : Int) (L.take (q + 1)) = inD h (y : Int) (ns.take k) ++ kvs (y : Int) (L.take q) ++ [x2] := by
            rw [hkn (y : Int), if_pos rfl, List.append_assoc]
          have HYs := Lib.hid hys
          have HYy := Lib.hid hyy
          have hgw : w.heap.size < wo.heap.size := hgl
          clear hne hlen hEW hkn hys hyy hlb0 hlbl hlbn
          go_wp2_with (fail)
          go_region_law (first
            | (refine step_row rfl (.tmp 35) (.tmp 38) rfl w.heap.size (f' y) rfl (inD h (y : Int) (ns.take k) ++ kvs (y : Int) (L.take q)) ((HI6.out.own y hy3).ext (by (repeat' (first | (with_reducible exact Below.refl _ _) | (with_reducible refine Below.mono (by assumption) ?_) | (with_reducible refine Below.trans ?_ (Below.mono (by assumption) ?_)) | (with_reducible refine Below.alloc ?_ ?_ _) | (with_reducible refine Below.drew ?_) | (with_reducible refine below_drewN ?_ _) | (with_reducible refine Below.setCell ?_ ?_ _) | (simp only [World.size_alloc, World.size_setCell, World.size_drew, size_drewN]; omega) | omega)))) _ x2 rfl HC0.out HLen.out HBase.out _ rfl ?_
               intro v' w' hO' hG' hat'
               have hIn := (HI6.out.ext HEW.out).app (ys := fun z : Nat => inD h (z : Int) (ns.take k) ++ kvs (z : Int) (L.take (q + 1))) hy3 (show Own1 w' w.heap.size 3 v' (inD h (y : Int) (ns.take k) ++ kvs (y : Int) (L.take (q + 1))) from by rw [HYy.out]; exact hO') HYs.out hG' hat'
               have hoff7 : ∀ z, z < 3 → Off (upV f' y v' z) wo.heap.size w5.heap.size := fun z hz => by
                 unfold upV
                 split
                 · exact (HO6.out y hy3).step hat' (by have := HEW.out.size; omega)
                 · exact HO6.out z hz
               have hW7 := ((HW6.out.ext HEW.out).off hG' (HO6.out y hy3)).grown (grown_set (g := w.heap.size) (o := y) v') (fun b hb _ e => by injection e with e; omega)
               have hE7 := (Below.grown (HE6.out.tr HEW.out) hG' (HE6.out.tr HEW.out).size (fun g hg => (World.ownsRow.lt (HI6.out.own y hy3) g hg).1)).setCell (p := ⟨w.heap.size, y, none⟩) (u := v') (Nat.le_refl _)
               have hz7 : w5.heap.size ≤ (w'.setCell ⟨w.heap.size, y, none⟩ v').heap.size := by
                 have h1 := hG'.size
                 have h2 := HEW.out.size
                 rw [World.size_setCell]
                 omega
               have hgc : w'.cell? ⟨w.heap.size, y, none⟩ = some (f' y) := (hG'.cell_far ⟨w.heap.size, y, none⟩ (Nat.lt_of_lt_of_le hgl6 HEW.out.size) HNe.out).trans (HEW.out.keep hgl6 cy0.out)
               have hfc : w'.frozen? ⟨w.heap.size, y, none⟩ = false := (hG'.frozen_far ⟨w.heap.size, y, none⟩ (Nat.lt_of_lt_of_le hgl6 HEW.out.size) HNe.out).trans ((HEW.out.frozen (p := ⟨w.heap.size, y, none⟩) hgl6).trans fy0.out)
               have hlb : w'.cell? ⟨wr.heap.size, 1, none⟩ = some (.int .i64 (y : Int)) := (hG'.cell_far ⟨wr.heap.size, 1, none⟩ HLb.out.2.1 HLb.out.2.2).trans HLb.out.1
               obtain ⟨A9, c9, hv9, _⟩ := hO'.form
               generalize (inD h (y : Int) (ns.take k) ++ kvs (y : Int) (L.take q) ++ [x2]).length = n9 at hv9
               subst hv9
               have HF := Lib.hid (show _ ∧ _ ∧ _ ∧ _ ∧ _ from ⟨hIn, hoff7, hW7, hE7, hz7⟩)
               clear hIn hoff7 hW7 hE7 hz7 hO' hG' hat'))
          all_goals go_wp2
          all_goals exact ⟨⟨q + 1, _, by omega, by go_num, HF.out.1, HF.out.2.1, HF.out.2.2.2.1, HF.out.2.2.1, HF.out.2.2.2.2⟩, by simp [intOf]; omega⟩
        · obtain rfl : q = L.length := by omega
          have hI7 := HI6.out
          rw [List.take_length] at hI7
          have e : (fun y : Nat => inD h (y : Int) (ns.take k) ++ kvs (y : Int) L) = fun y : Nat => inD h (y : Int) (ns.take (k + 1)) := by
            funext y
            rw [HS.out]
          rw [e] at hI7
          have HI7 := Lib.hid hI7
          clear hI7 e hW6
          go_wp2
          exact ⟨⟨k + 1, f', by omega, by go_num, HI7.out, HE6.out⟩, by simp [intOf]; omega⟩
    · obtain rfl : k = ns.length := by omega
      have hI7 := HIn.out
      rw [List.take_length] at hI7
      obtain ⟨P, hP, hPx⟩ := hI7.toP
      have HP := Lib.hid hP
      have HPx := Lib.hid hPx
      clear hI7 hP hPx
      go_wp2
      go_loopw [45] (fun i W => ∃ (j : Nat) (P : Nat → PR), j ≤ 3 ∧ i = .int .i64 j ∧ InsP W w.heap.size w.heap.size P ∧ (∀ i : Nat, i < 3 → (P i).xs = inD h (i : Int) ns) ∧ Ext w W) (fun i _ => 3 - (intOf i).toNat)
      case atStart => exact ⟨0, P, by omega, rfl, HP.out, HPx.out, HE.out⟩
      case round =>
        obtain ⟨j, P2, hj, rfl, hP2, hPx2, hE2⟩ := hrel
        clear HP HPx
        have HP2 := Lib.hid hP2
        have HPx2 := Lib.hid hPx2
        have HE2 := Lib.hid hE2
        have hzE2 := hE2.size
        by_cases hltj : j < 3
        · have hji : (j : Int) < 3 := by omega
          have cj := (hP2.blk.cell j).trans (rw3_get _ hltj)
          have fj := hP2.blk.frozen j
          have hgl2 := hP2.blk.lt
          have hcl := Lib.hid (hP2.clip hltj)
          simp only [PR.cell] at cj
          have CC := Lib.hid (fun w => clipI_c (P2 j).A (P2 j).xs.length (P2 j).c w (hP2.cap j hltj))
          have hEs : Ext w (wr.setCell ⟨w.heap.size, j, none⟩ (.slice (P2 j).A (P2 j).xs.length (P2 j).xs.length)) := by (repeat' (first | (with_reducible exact Below.refl _ _) | (with_reducible refine Below.mono (by assumption) ?_) | (with_reducible refine Below.trans ?_ (Below.mono (by assumption) ?_)) | (with_reducible refine Below.alloc ?_ ?_ _) | (with_reducible refine Below.drew ?_) | (with_reducible refine below_drewN ?_ _) | (with_reducible refine Below.setCell ?_ ?_ _) | (simp only [World.size_alloc, World.size_setCell, World.size_drew, size_drewN]; omega) | omega))
          have HEs := Lib.hid hEs
          clear hP2 hPx2 hE2 hEs
          go_wp2_with (fail)
          go_at_call 77
          refine (CC.out _).mono ?_
          rintro e w9 ⟨rfl, rfl⟩
          go_wp2
          exact ⟨⟨j + 1, _, by omega, by go_num, hcl.out, (fun i hi => by rw [clipP_xs]; exact HPx2.out i hi), HEs.out⟩, by simp [intOf]; omega⟩
        · obtain rfl : j = 3 := by omega
          have hfr := (HP2.out.own (Nat.le_refl _)).fresh (w := w) (Nat.le_refl _) HE2.out
          have e : [P2 0, P2 1, P2 2].map PR.xs = [inD h 0 ns, inD h 1 ns, inD h 2 ns] := by
            simp only [List.map_cons, List.map_nil]
            rw [HPx2.out 0 (by omega), HPx2.out 1 (by omega), HPx2.out 2 (by omega)]
            rfl
          rw [e] at hfr
          have HF := Lib.hid hfr
          clear hfr e hP2 hPx2 hE2
          go_wp2
          go_ret
          exact HF.out
set_option maxHeartbeats 2000000 in
theorem implSerialOrders_c (h : List TxnT) (ns : List Int) (S S' : Nat → Prop) (A B : Option Addr) (c d : Nat) (w : World) (hx : Txns S w A h) (hsm : Small h) (hi : Ints S' w B ns) (hn : ns.length ≤ 1048576) :
    Calls Try.prog 31 #[.slice A h.length c, .slice B ns.length d] w (FreshRR (soV h ns) w) := by
  have CV := fun w hx hi => implSerialRight_c h ns S S' A B c d w hx hsm hi hn
  unfold soV
  have HX := Lib.hid hx
  have HI := Lib.hid hi
  clear hx hi
  cases hv : serV h ns with
  | false =>
    rw [if_neg (by simp)]
    rw [hv] at CV
    have HCV := Lib.hid CV
    clear CV hv
    go_enter Try.func31, Try.ntmps31
    go_wp2_with (fail)
    go_at_call 28
    refine (HCV.out _ (HX.out.ext (by (repeat' (first | (with_reducible exact Below.refl _ _) | (with_reducible refine Below.mono (by assumption) ?_) | (with_reducible refine Below.trans ?_ (Below.mono (by assumption) ?_)) | (with_reducible refine Below.alloc ?_ ?_ _) | (with_reducible refine Below.drew ?_) | (with_reducible refine below_drewN ?_ _) | (with_reducible refine Below.setCell ?_ ?_ _) | (simp only [World.size_alloc, World.size_setCell, World.size_drew, size_drewN]; omega) | omega)))) (HI.out.ext (by (repeat' (first | (with_reducible exact Below.refl _ _) | (with_reducible refine Below.mono (by assumption) ?_) | (with_reducible refine Below.trans ?_ (Below.mono (by assumption) ?_)) | (with_reducible refine Below.alloc ?_ ?_ _) | (with_reducible refine Below.drew ?_) | (with_reducible refine below_drewN ?_ _) | (with_reducible refine Below.setCell ?_ ?_ _) | (simp only [World.size_alloc, World.size_setCell, World.size_drew, size_drewN]; omega) | omega))))).mono ?_
    rintro e w1 ⟨rfl, hb⟩
    obtain ⟨hc, hf, hz, hs⟩ := bcell hb
    (try simp only [World.size_alloc, World.size_setCell, World.size_drew, size_drewN] at hs); (first | have l0 := Nat.lt_of_lt_of_le l0 (show _ ≤ w1.heap.size by omega) | have l0 : w.heap.size < w1.heap.size := (by omega) | skip); (try have l0e := Nat.le_of_lt l0); (try have l0f := Nat.le_add_right_of_le (k := 1) l0e); (try have l1 := Nat.lt_of_lt_of_le l1 (show _ ≤ w1.heap.size by omega)); (try have l1e := Nat.le_of_lt l1); (try have l1f := Nat.le_add_right_of_le (k := 1) l1e); (try have l2 := Nat.lt_of_lt_of_le l2 (show _ ≤ w1.heap.size by omega)); (try have l2e := Nat.le_of_lt l2); (try have l2f := Nat.le_add_right_of_le (k := 1) l2e); (try have l3 := Nat.lt_of_lt_of_le l3 (show _ ≤ w1.heap.size by omega)); (try have l3e := Nat.le_of_lt l3); (try have l3f := Nat.le_add_right_of_le (k := 1) l3e)
    go_wp2
    go_ret
    exact rows_nil _ _ (by (repeat' (first | (with_reducible exact Below.refl _ _) | (with_reducible refine Below.mono (by assumption) ?_) | (with_reducible refine Below.trans ?_ (Below.mono (by assumption) ?_)) | (with_reducible refine Below.alloc ?_ ?_ _) | (with_reducible refine Below.drew ?_) | (with_reducible refine below_drewN ?_ _) | (with_reducible refine Below.setCell ?_ ?_ _) | (simp only [World.size_alloc, World.size_setCell, World.size_drew, size_drewN]; omega) | omega)))
  | true =>
    rw [if_pos rfl]
    rw [hv] at CV
    obtain ⟨hhv, hl7, hn6⟩ := serV_parts hv
    have CI := Lib.hid (fun w hx hi => installs_c h ns S S' A B c d w hx hsm hi hn6 hhv hl7)
    have HCV := Lib.hid CV
    clear CV hv hhv hl7
    go_enter Try.func31, Try.ntmps31
    go_wp2_with (fail)
    go_at_call 28
    refine (HCV.out _ (HX.out.ext (by (repeat' (first | (with_reducible exact Below.refl _ _) | (with_reducible refine Below.mono (by assumption) ?_) | (with_reducible refine Below.trans ?_ (Below.mono (by assumption) ?_)) | (with_reducible refine Below.alloc ?_ ?_ _) | (with_reducible refine Below.drew ?_) | (with_reducible refine below_drewN ?_ _) | (with_reducible refine Below.setCell ?_ ?_ _) | (simp only [World.size_alloc, World.size_setCell, World.size_drew, size_drewN]; omega) | omega)))) (HI.out.ext (by (repeat' (first | (with_reducible exact Below.refl _ _) | (with_reducible refine Below.mono (by assumption) ?_) | (with_reducible refine Below.trans ?_ (Below.mono (by assumption) ?_)) | (with_reducible refine Below.alloc ?_ ?_ _) | (with_reducible refine Below.drew ?_) | (with_reducible refine below_drewN ?_ _) | (with_reducible refine Below.setCell ?_ ?_ _) | (simp only [World.size_alloc, World.size_setCell, World.size_drew, size_drewN]; omega) | omega))))).mono ?_
    rintro e w1 ⟨rfl, hb⟩
    obtain ⟨hc, hf, hz, hs⟩ := bcell hb
    (try simp only [World.size_alloc, World.size_setCell, World.size_drew, size_drewN] at hs); (first | have l0 := Nat.lt_of_lt_of_le l0 (show _ ≤ w1.heap.size by omega) | have l0 : w.heap.size < w1.heap.size := (by omega) | skip); (try have l0e := Nat.le_of_lt l0); (try have l0f := Nat.le_add_right_of_le (k := 1) l0e); (try have l1 := Nat.lt_of_lt_of_le l1 (show _ ≤ w1.heap.size by omega)); (try have l1e := Nat.le_of_lt l1); (try have l1f := Nat.le_add_right_of_le (k := 1) l1e); (try have l2 := Nat.lt_of_lt_of_le l2 (show _ ≤ w1.heap.size by omega)); (try have l2e := Nat.le_of_lt l2); (try have l2f := Nat.le_add_right_of_le (k := 1) l2e); (try have l3 := Nat.lt_of_lt_of_le l3 (show _ ≤ w1.heap.size by omega)); (try have l3e := Nat.le_of_lt l3); (try have l3f := Nat.le_add_right_of_le (k := 1) l3e)
    have HE := Lib.hid (show Ext w w1 by (repeat' (first | (with_reducible exact Below.refl _ _) | (with_reducible refine Below.mono (by assumption) ?_) | (with_reducible refine Below.trans ?_ (Below.mono (by assumption) ?_)) | (with_reducible refine Below.alloc ?_ ?_ _) | (with_reducible refine Below.drew ?_) | (with_reducible refine below_drewN ?_ _) | (with_reducible refine Below.setCell ?_ ?_ _) | (simp only [World.size_alloc, World.size_setCell, World.size_drew, size_drewN]; omega) | omega)))
    have hz1 := HE.out.size
    clear hc hf hz hb
    go_wp2_with (fail)
    go_at_call 55
    refine (CI.out _ (HX.out.ext HE.out) (HI.out.ext HE.out)).mono ?_
    rintro e w2 ⟨A2, c2, f2, rfl, hR, hE2⟩
    have HF := Lib.hid (show FreshRR [inD h 0 ns, inD h 1 ns, inD h 2 ns] w (.returned (.slice A2 3 c2)) w2 from ⟨A2, c2, f2, rfl, hR.lower hz1, HE.out.tr hE2⟩)
    clear hR hE2
    go_wp2
    go_ret
    exact HF.out
end Go.Proofs.Ytknphamfindohaa
