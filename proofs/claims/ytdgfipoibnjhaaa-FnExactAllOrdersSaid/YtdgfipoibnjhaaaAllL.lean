/-
  The program's AllOrders: lists of rows of its own, the rows' blocks apart.
-/
import Derived.Test.YtdgfipoibnjhaaaAllI
import Derived.Test.YtdgfipoibnjhaaaGLeaf47
namespace Go.Proofs.Ytdgfipoibnjhaaa
set_option linter.unusedSimpArgs false
set_option linter.unusedVariables false
set_option maxRecDepth 100000
open Go.RowKit

set_option maxHeartbeats 8000000 in
theorem implAllOrders_own (h : List TxnT) (S : Nat → Prop) (A : Option Addr) (c : Nat) (w : World) (hx : Txns S w A h) (hsm : Small h) :
    Calls Try.prog 7 #[.slice A h.length c] w (FreshL (allV h) w) := by
  have HX := Lib.hid hx
  clear hx
  cases hv : histv h with
  | false =>
    have e : allV h = [] := by unfold allV; rw [if_neg (by rw [hv]; simp)]
    rw [e]
    have CF := Lib.hid (fun w hx => implFirstOrders_no h S A c w hx hsm hv)
    have hnil : ∀ W : World, (binOp .eql 41 (.slice none 0 0) (.slice none 0 0)).run Try.prog W = .ok (.bool true) W := fun W => by first | rfl | kernel_rfl | simp [binOp]
    clear hv e
    go_enter Try.func7, Try.ntmps7
    go_wp2_with (fail)
    go_at_call 20
    refine (CF.out _ (HX.out.ext (by (repeat' (first | (with_reducible exact Below.refl _ _) | (with_reducible refine Below.mono (by assumption) ?_) | (with_reducible refine Below.trans ?_ (Below.mono (by assumption) ?_)) | (with_reducible refine Below.alloc ?_ ?_ _) | (with_reducible refine Below.drew ?_) | (with_reducible refine below_drewN ?_ _) | (with_reducible refine Below.setCell ?_ ?_ _) | (simp only [World.size_alloc, World.size_setCell, World.size_drew, size_drewN]; omega) | omega))))).mono ?_
    rintro e w1 ⟨rfl, hb⟩
    obtain ⟨hc, hf, hz, hs⟩ := bcell hb
    (try simp only [World.size_alloc, World.size_setCell, World.size_drew, size_drewN] at hs); (first | have l0 := Nat.lt_of_lt_of_le l0 (show _ ≤ w1.heap.size by omega) | have l0 : w.heap.size < w1.heap.size := (by omega) | skip); (try have l0e := Nat.le_of_lt l0); (try have l0f := Nat.le_add_right_of_le (k := 1) l0e); (try have l1 := Nat.lt_of_lt_of_le l1 (show _ ≤ w1.heap.size by omega)); (try have l1e := Nat.le_of_lt l1); (try have l1f := Nat.le_add_right_of_le (k := 1) l1e); (try have l2 := Nat.lt_of_lt_of_le l2 (show _ ≤ w1.heap.size by omega)); (try have l2e := Nat.le_of_lt l2); (try have l2f := Nat.le_add_right_of_le (k := 1) l2e); (try have l3 := Nat.lt_of_lt_of_le l3 (show _ ≤ w1.heap.size by omega)); (try have l3e := Nat.le_of_lt l3); (try have l3f := Nat.le_add_right_of_le (k := 1) l3e)
    go_wp2
    go_ret
    exact FreshL.none (by (repeat' (first | (with_reducible exact Below.refl _ _) | (with_reducible refine Below.mono (by assumption) ?_) | (with_reducible refine Below.trans ?_ (Below.mono (by assumption) ?_)) | (with_reducible refine Below.alloc ?_ ?_ _) | (with_reducible refine Below.drew ?_) | (with_reducible refine below_drewN ?_ _) | (with_reducible refine Below.setCell ?_ ?_ _) | (simp only [World.size_alloc, World.size_setCell, World.size_drew, size_drewN]; omega) | omega)))
  | true =>
    have CF := Lib.hid (fun w hx => implFirstOrders_own h S A c w hx hsm hv)
    have hf3 := first_three hv
    have hl6 := first_len6 hv
    have hav : allV h = if manyV (firstV h) ≤ 200 then allL (firstV h) else [] := by unfold allV; simp [hv]
    rw [hav]
    rw [← hf3] at CF
    have hll : (firstV h).length = 3 := by rw [hf3]; rfl
    generalize firstV h = ls at CF hl6 hll ⊢
    have hmb := many_le hl6 (by omega)
    have HMb := Lib.hid hmb
    have HL6 := Lib.hid hl6
    have HLl := Lib.hid hll
    obtain ⟨R, hR⟩ : ∃ R, (if manyV ls ≤ 200 then allL ls else []) = R := ⟨_, rfl⟩
    rw [hR]
    have HRr := Lib.hid hR
    clear hv hf3 hav hl6 hmb hR
    go_enter Try.func7, Try.ntmps7
    go_wp2_with (fail)
    go_at_call 20
    refine (CF.out _ (HX.out.ext (by (repeat' (first | (with_reducible exact Below.refl _ _) | (with_reducible refine Below.mono (by assumption) ?_) | (with_reducible refine Below.trans ?_ (Below.mono (by assumption) ?_)) | (with_reducible refine Below.alloc ?_ ?_ _) | (with_reducible refine Below.drew ?_) | (with_reducible refine below_drewN ?_ _) | (with_reducible refine Below.setCell ?_ ?_ _) | (simp only [World.size_alloc, World.size_setCell, World.size_drew, size_drewN]; omega) | omega))))).mono ?_
    rintro e w1 ⟨v1, fs, rfl, hO, hfm, hfc, ⟨g1, hg1⟩, hb⟩
    obtain ⟨hc, hf, hz, hs⟩ := bcell hb
    (try simp only [World.size_alloc, World.size_setCell, World.size_drew, size_drewN] at hs); (first | have l0 := Nat.lt_of_lt_of_le l0 (show _ ≤ w1.heap.size by omega) | have l0 : w.heap.size < w1.heap.size := (by omega) | skip); (try have l0e := Nat.le_of_lt l0); (try have l0f := Nat.le_add_right_of_le (k := 1) l0e); (try have l1 := Nat.lt_of_lt_of_le l1 (show _ ≤ w1.heap.size by omega)); (try have l1e := Nat.le_of_lt l1); (try have l1f := Nat.le_add_right_of_le (k := 1) l1e); (try have l2 := Nat.lt_of_lt_of_le l2 (show _ ≤ w1.heap.size by omega)); (try have l2e := Nat.le_of_lt l2); (try have l2f := Nat.le_add_right_of_le (k := 1) l2e); (try have l3 := Nat.lt_of_lt_of_le l3 (show _ ≤ w1.heap.size by omega)); (try have l3e := Nat.le_of_lt l3); (try have l3f := Nat.le_add_right_of_le (k := 1) l3e)
    have HE1 := Lib.hid (show Ext w w1 from hb)
    obtain ⟨A1, c1, rfl, hle1, hin1⟩ := hO.inx
    obtain ⟨a1, rfl⟩ : ∃ a, A1 = some a := by
      cases A1 with
      | none => cases hg1
      | some a => exact ⟨a, rfl⟩
    have hfl : fs.length = 3 := by rw [← hll, ← hfm, List.length_map]
    have HFm := Lib.hid hfm
    have HFc := Lib.hid hfc
    have HIn := Lib.hid hin1
    have HFl := Lib.hid hfl
    clear hO hfm hfc hb hc hf hz hin1 hg1 hll CF HX
    obtain ⟨nf, hnf⟩ : ∃ nf, fs.length = nf := ⟨_, rfl⟩
    rw [hnf]
    have HNf := Lib.hid hnf
    have hnf3 : nf ≤ 3 := by omega
    have hnf0 : 2 < nf := by omega
    clear hnf hfl
    have hat : ∀ k, k < nf → ∃ p off, fs[k]? = some p ∧ ls[k]? = some p.xs ∧ a1 = ⟨a1.block, off, none⟩ ∧ a1.block < w1.heap.size ∧ w1.cell? ⟨a1.block, off + k, none⟩ = some p.cell ∧ Ints Any w1 p.A p.xs ∧ p.xs.length ≤ p.c := fun k hk => by
      have hk2 : k < fs.length := by rw [HNf.out]; exact hk
      obtain ⟨g, off, e1, _, h3, h4, h5⟩ := HIn.out k _ (List.getElem?_eq_getElem hk2)
      cases e1
      refine ⟨fs[k], off, List.getElem?_eq_getElem hk2, ?_, rfl, h3, h4, SlAt.mono h5 (fun _ _ _ => trivial) (fun _ _ h => h), HFc.out _ (List.getElem_mem hk2)⟩
      rw [← HFm.out, List.getElem?_map, List.getElem?_eq_getElem hk2]
      rfl
    have HAt := Lib.hid hat
    clear hat
    obtain ⟨b1, o1, s1⟩ := a1
    obtain rfl : s1 = none := by
      obtain ⟨p, off, _, _, e, _⟩ := HAt.out 0 (by omega)
      cases e
      rfl
    have HAt : Hid (∀ k, k < nf → ∃ p, ls[k]? = some p.xs ∧ b1 < w1.heap.size ∧ w1.cell? ⟨b1, o1 + k, none⟩ = some (PR.cell p) ∧ Ints Any w1 p.A p.xs ∧ p.xs.length ≤ p.c) := Lib.hid (fun k hk => by
      obtain ⟨p, off, _, h2, e, h3, h4, h5⟩ := HAt.out k hk
      cases e
      exact ⟨p, h2, h3, h4, h5⟩)
    have hnil : ∀ W : World, (binOp .eql 41 (.slice (some ⟨b1, o1, none⟩) nf c1) (.slice none 0 0)).run Try.prog W = .ok (.bool false) W := fun W => by first | rfl | kernel_rfl | simp [binOp]
    go_wp2
    go_loopw [4, 25] (fun m i W => ∃ k : Nat, k ≤ nf ∧ i = .int .i64 k ∧ m = .int .i64 (manyV (ls.take k) : Nat) ∧ W = w1) (fun _ i _ => nf - (intOf i).toNat)
    case atStart => exact ⟨0, Nat.zero_le _, rfl, rfl, rfl⟩
    case round =>
      obtain ⟨k, hk, rfl, rfl, rfl⟩ := hrel
      by_cases hlt : k < nf
      · obtain ⟨p, hlk, hb1, hck, _, _⟩ := HAt.out k hlt
        have hki : (k : Int) < nf := by omega
        obtain ⟨pA, pc, pl⟩ := p
        simp only [PR.cell] at hck
        simp only at hlk
        have hl6 := HL6.out pl (List.mem_of_getElem? hlk)
        have HMt := Lib.hid (manyV_take hlk)
        have hm0 := (HMb.out k).2
        have hm1 := (HMb.out (k + 1)).2
        rw [HMt.out] at hm1
        clear hlk
        generalize manyV (ls.take k) = q at HMt hm0 hm1 ⊢
        have HM1 := Lib.hid hm1
        clear hm1
        go_wp2
        go_loopw [4, 31] (fun m i W => ∃ n : Nat, n ≤ pl.length ∧ i = .int .i64 n ∧ m = .int .i64 (q * fac n : Nat) ∧ W = wr) (fun _ i _ => pl.length - (intOf i).toNat)
        case atStart => exact ⟨0, Nat.zero_le _, rfl, by simp [fac], rfl⟩
        case round =>
          obtain ⟨n, hn, rfl, rfl, rfl⟩ := hrel
          by_cases hlt2 : n < pl.length
          · have hni : (n : Int) < pl.length := by omega
            have hf1 : q * fac n ≤ 373248000 := Nat.le_trans (Nat.mul_le_mul_left _ (fac_mono (by omega))) HM1.out
            have hf2 : q * fac (n + 1) ≤ 373248000 := Nat.le_trans (Nat.mul_le_mul_left _ (fac_mono (by omega))) HM1.out
            have HFe := Lib.hid (show q * fac (n + 1) = q * fac n * (n + 1) by rw [show fac (n + 1) = fac n * (n + 1) from rfl, Nat.mul_assoc])
            rw [HFe.out] at hf2
            generalize q * fac n = f at HFe hf1 hf2 ⊢
            have hp0 : 0 ≤ (f : Int) * ((n : Int) + 1) := by
              have : ((f * (n + 1) : Nat) : Int) = (f : Int) * ((n : Int) + 1) := by simp
              omega
            have hp1 : (f : Int) * ((n : Int) + 1) ≤ 373248000 := by
              have : ((f * (n + 1) : Nat) : Int) = (f : Int) * ((n : Int) + 1) := by simp
              omega
            go_wp2
            exact ⟨⟨n + 1, by omega, by go_num, by rw [HFe.out]; go_num, trivial⟩, by simp [intOf]; omega⟩
          · obtain rfl : n = pl.length := by omega
            rw [← HMt.out]
            have hm1 := (HMb.out (k + 1)).2
            go_wp2
            exact ⟨⟨k + 1, by omega, by go_num, rfl, trivial⟩, by simp [intOf]; omega⟩
      · obtain rfl : k = nf := by omega
        obtain ⟨w0, hw0⟩ : ∃ w0, w0 = wr := ⟨_, rfl⟩
        subst hw0
        have hmt : manyV (ls.take k) = manyV ls := by rw [List.take_of_length_le (by rw [HLl.out]; omega)]
        have hmm := (HMb.out k).2
        rw [hmt] at hmm ⊢
        by_cases h2 : manyV ls ≤ 200
        rotate_left
        · have HR0 := Lib.hid (show R = [] by rw [← HRr.out, if_neg h2])
          have h2i : (200 : Int) < (manyV ls : Nat) := by omega
          clear h2 hmt
          generalize manyV ls = q at h2i hmm ⊢
          go_wp2
          go_ret
          rw [HR0.out]
          exact FreshL.none HE1.out
        · have HR0 := Lib.hid (show R = allL ls by rw [← HRr.out, if_pos h2])
          have h2i : ¬ ((200 : Int) < (manyV ls : Nat)) := by omega
          have HM2 := Lib.hid (fun j => Nat.le_trans (many_mono ls j) h2)
          clear h2 hmt
          have hO0 : OutX ((w0.alloc (.cells #[] 39)).alloc (.cells #[.slice (some ⟨w0.heap.size, 0, none⟩) 0 0] 41)) w0.heap.size (.slice (some ⟨w0.heap.size + 1, 0, none⟩) 1 1) [⟨some ⟨w0.heap.size, 0, none⟩, 0, []⟩] := by
            have := OutX.one (w0.alloc (.cells #[] 39)) (B := w0.heap.size) ⟨some ⟨w0.heap.size, 0, none⟩, 0, []⟩ (by simp) (fun j q hq => by simp at hq)
            rw [World.size_alloc] at this
            exact this
          have HO0 := Lib.hid hO0
          clear hO0
          generalize manyV ls = q at h2i hmm ⊢
          go_wp2
          go_loopw [8, 46] (fun v i W => ∃ (j : Nat) (es : List PX), j ≤ k ∧ i = .int .i64 j ∧ OutX W w0.heap.size v es ∧ HasX es ∧ es.map PX.rows = allL (ls.take j) ∧ LeafX W w0.heap.size v.ownBlock es ∧ Ext w0 W) (fun _ i _ => k - (intOf i).toNat)
          case atStart => exact ⟨0, _, Nat.zero_le _, rfl, HO0.out, HasX.app HasX.nil (fun q hq => by cases hq), rfl, LeafX.noRows (by simp only [World.size_alloc]; omega), by (repeat' (first | (with_reducible exact Below.refl _ _) | (with_reducible refine Below.mono (by assumption) ?_) | (with_reducible refine Below.trans ?_ (Below.mono (by assumption) ?_)) | (with_reducible refine Below.alloc ?_ ?_ _) | (with_reducible refine Below.drew ?_) | (with_reducible refine below_drewN ?_ _) | (with_reducible refine Below.setCell ?_ ?_ _) | (simp only [World.size_alloc, World.size_setCell, World.size_drew, size_drewN]; omega) | omega))⟩
          case round =>
            obtain ⟨j, es, hj, rfl, hOx, hHx, hem, hLx, hE⟩ := hrel
            have HLx := Lib.hid hLx
            have HOx := Lib.hid hOx
            have HHx := Lib.hid hHx
            have HEm := Lib.hid hem
            have HE := Lib.hid hE
            have hz0 := hE.size
            clear HO0 hOx hHx hem hE hLx
            by_cases hlt : j < k
            · have hji : (j : Int) < k := by omega
              obtain ⟨p, hlk, hb1, hck, hI1, hcap⟩ := HAt.out j hlt
              obtain ⟨pA, pc, pl⟩ := p
              simp only [PR.cell] at hck
              simp only at hlk hI1 hcap
              have hl6 := HL6.out pl (List.mem_of_getElem? hlk)
              have HLk := Lib.hid hlk
              have HI1 := Lib.hid hI1
              have ck := HE.out.keep hb1 hck
              have hb1' : b1 < wr.heap.size := by omega
              obtain ⟨A8, c8, hv8, hle8, hcs⟩ := HOx.out.cells
              subst hv8
              have HCs := Lib.hid hcs
              have hes : es.length ≤ 200 := by
                have h1 := congrArg List.length HEm.out
                rw [List.length_map, all_take_len] at h1
                have := HM2.out j
                omega
              obtain ⟨ne, hne⟩ : ∃ ne, es.length = ne := ⟨_, rfl⟩
              rw [hne] at hes ⊢
              have HNe := Lib.hid hne
              obtain ⟨wa, hwa⟩ : ∃ wa, wa = wr := ⟨_, rfl⟩
              subst hwa
              have HOn := Lib.hid (OutX.made wa (B := wa.heap.size) #[] 0 (Nat.le_refl _) (by omega) rfl)
              have hxl : (extV (allL (ls.take j)) pl).length ≤ 200 := by
                rw [← allL_take HLk.out, all_take_len]
                exact HM2.out (j + 1)
              have HXl := Lib.hid hxl
              have CP := Lib.hid (fun W hx => permuted_c pl.length pl Any pA pc W rfl hl6 hx hcap)
              clear hlk hI1 hcs hne hxl hck
              go_wp2
              go_loopw [11, 53] (fun v i W => ∃ (n : Nat) (ns : List PX), n ≤ ne ∧ i = .int .i64 n ∧ OutX W wa.heap.size v ns ∧ HasX ns ∧ ns.map PX.rows = extV ((allL (ls.take j)).take n) pl ∧ LeafX W wa.heap.size v.ownBlock ns ∧ Ext wa W) (fun _ i _ => ne - (intOf i).toNat)
              case atStart => exact ⟨0, [], Nat.zero_le _, rfl, HOn.out, HasX.nil, rfl, LeafX.nil, by (repeat' (first | (with_reducible exact Below.refl _ _) | (with_reducible refine Below.mono (by assumption) ?_) | (with_reducible refine Below.trans ?_ (Below.mono (by assumption) ?_)) | (with_reducible refine Below.alloc ?_ ?_ _) | (with_reducible refine Below.drew ?_) | (with_reducible refine below_drewN ?_ _) | (with_reducible refine Below.setCell ?_ ?_ _) | (simp only [World.size_alloc, World.size_setCell, World.size_drew, size_drewN]; omega) | omega))⟩
              case round =>
                obtain ⟨n, ns, hn, rfl, hON, hHN, hnm, hLn, hE4⟩ := hrel
                have HLn := Lib.hid hLn
                have HON := Lib.hid hON
                have HHN := Lib.hid hHN
                have HNm := Lib.hid hnm
                have HE4 := Lib.hid hE4
                have hz4 := hE4.size
                clear HOn hON hHN hnm hE4 hLn
                by_cases hlt2 : n < ne
                · have hni : (n : Int) < ne := by omega
                  obtain ⟨e, he⟩ : ∃ e, es[n]? = some e := ⟨es[n]'(by rw [HNe.out]; exact hlt2), List.getElem?_eq_getElem _⟩
                  obtain ⟨g8, hA8, hB8, hl8, hc8, hin8⟩ := HCs.out n e he
                  subst hA8
                  have ck4 := HE4.out.keep hb1' ck
                  have hc84 := HE4.out.keep hl8 hc8
                  have HHe := Lib.hid (HHx.out e (List.mem_of_getElem? he))
                  have hR0 : (allL (ls.take j))[n]? = some e.rows := by rw [← HEm.out, List.getElem?_map, he]; rfl
                  have HTk := Lib.hid (extV_take (l := pl) hR0)
                  have HPt := Lib.hid (ext_part (out := allL (ls.take j)) (l := pl) (n + 1))
                  have hel : e.ps.length ≤ 3 := by
                    have h1 := all_rowsLen hR0
                    rw [List.length_take] at h1
                    unfold PX.rows at h1
                    rw [List.length_map] at h1
                    omega
                  have hq6 : ∀ q ∈ e.ps, q.xs.length ≤ 6 := fun q hq => all_rows6 HL6.out hR0 q.xs (by unfold PX.rows; exact List.mem_map.2 ⟨q, hq, rfl⟩)
                  have HQ6 := Lib.hid hq6
                  have HIn8 := Lib.hid hin8
                  obtain ⟨eA, ec, eps⟩ := e
                  simp only [PX.cell] at hc84
                  simp only at hel
                  obtain ⟨nq, hnq⟩ : ∃ nq, eps.length = nq := ⟨_, rfl⟩
                  simp only [hnq] at hc84 hel
                  have HNq := Lib.hid hnq
                  obtain ⟨w4, hw4⟩ : ∃ w4, w4 = wr := ⟨_, rfl⟩
                  subst hw4
                  clear he hc8 hin8 hR0 hq6 hnq
                  go_wp2_with (fail)
                  go_at_call 21
                  refine (CP.out _ (HI1.out.ext (HE.out.tr (HE4.out.tr (by (repeat' (first | (with_reducible exact Below.refl _ _) | (with_reducible refine Below.mono (by assumption) ?_) | (with_reducible refine Below.trans ?_ (Below.mono (by assumption) ?_)) | (with_reducible refine Below.alloc ?_ ?_ _) | (with_reducible refine Below.drew ?_) | (with_reducible refine below_drewN ?_ _) | (with_reducible refine Below.setCell ?_ ?_ _) | (simp only [World.size_alloc, World.size_setCell, World.size_drew, size_drewN]; omega) | omega))))))).mono ?_
                  rintro e w5 ⟨v5, p9, rfl, hO9, hm9, hh9, hb⟩
                  obtain ⟨hc, hf, hz, hs⟩ := bcell hb
                  (try simp only [World.size_alloc, World.size_setCell, World.size_drew, size_drewN] at hs); (first | have l0 := Nat.lt_of_lt_of_le l0 (show _ ≤ w5.heap.size by omega) | have l0 : w.heap.size < w5.heap.size := (by omega) | skip); (try have l0e := Nat.le_of_lt l0); (try have l0f := Nat.le_add_right_of_le (k := 1) l0e); (try have l1 := Nat.lt_of_lt_of_le l1 (show _ ≤ w5.heap.size by omega)); (try have l1e := Nat.le_of_lt l1); (try have l1f := Nat.le_add_right_of_le (k := 1) l1e); (try have l2 := Nat.lt_of_lt_of_le l2 (show _ ≤ w5.heap.size by omega)); (try have l2e := Nat.le_of_lt l2); (try have l2f := Nat.le_add_right_of_le (k := 1) l2e); (try have l3 := Nat.lt_of_lt_of_le l3 (show _ ≤ w5.heap.size by omega)); (try have l3e := Nat.le_of_lt l3); (try have l3f := Nat.le_add_right_of_le (k := 1) l3e)
                  have HE45 := Lib.hid (show Ext w4 w5 from hb)
                  have hz5 := hb.size
                  obtain ⟨A9, c9, rfl, hle9, hin9⟩ := hO9.inx
                  have HM9 := Lib.hid hm9
                  have HH9 := Lib.hid hh9
                  have HI9 := Lib.hid hin9
                  have HS9 := Lib.hid (fun p (hp : p ∈ p9) a (ha : p.A = some a) => (hO9.row p hp).1.2 a ha)
                  have HAp := Lib.hid hO9.apart
                  have HLn5 := Lib.hid (HLn.out.ext HE45.out)
                  have HON5 := Lib.hid (HON.out.ext HE45.out)
                  have HOf := Lib.hid (show ∀ g, u11.ownBlock = some g → g < w4.heap.size ∨ w5.heap.size ≤ g from fun g hg => .inl (HON.out.lt g hg).2)
                  have hp9l : ∀ p ∈ p9, p.xs.length ≤ 6 := fun p hp => by
                    have h1 : p.xs ∈ prm pl := by rw [← HM9.out]; exact List.mem_map.2 ⟨p, hp, rfl⟩
                    have h2 := (prm_perm h1).length_eq
                    omega
                  have HP9l := Lib.hid hp9l
                  obtain ⟨n9, hn9⟩ : ∃ n9, p9.length = n9 := ⟨_, rfl⟩
                  have hn9b : n9 ≤ 720 := by
                    have h1 := congrArg List.length HM9.out
                    rw [List.length_map, prm_len] at h1
                    have := fac_le hl6
                    omega
                  have hxl2 : (extV ((allL (ls.take j)).take n) pl).length + n9 ≤ 200 := by
                    have h1 := HPt.out
                    rw [HTk.out, List.length_append] at h1
                    have h2 : (extO (PX.rows ⟨eA, ec, eps⟩) pl).length = n9 := by
                      unfold extO
                      rw [List.length_map, ← HM9.out, List.length_map, hn9]
                    have := HXl.out
                    omega
                  have HXl2 := Lib.hid hxl2
                  rw [hn9]
                  have HN9 := Lib.hid hn9
                  clear hb hc hf hz hO9 hm9 hh9 hin9 HON hp9l hn9 hxl2 hle9
                  go_wp2
                  go_loopw [11, 60] (fun v i W => ∃ (q : Nat) (ns : List PX), q ≤ n9 ∧ i = .int .i64 q ∧ OutX W wa.heap.size v ns ∧ HasX ns ∧ ns.map PX.rows = extV ((allL (ls.take j)).take n) pl ++ (p9.take q).map (fun p => PX.rows ⟨eA, ec, eps⟩ ++ [p.xs]) ∧ InX W (fun b => w4.heap.size ≤ b ∧ b < w5.heap.size) ⟨A9, c9, p9⟩ ∧ (∀ g, v.ownBlock = some g → g < w4.heap.size ∨ w5.heap.size ≤ g) ∧ Apart W wa.heap.size w4.heap.size w5.heap.size v.ownBlock ns p9 q ∧ Ext wa W ∧ w5.heap.size ≤ W.heap.size) (fun _ i _ => n9 - (intOf i).toNat)
                  case atStart => exact ⟨0, ns, Nat.zero_le _, rfl, HON5.out, HHN.out, by rw [HNm.out]; simp, HI9.out, HOf.out, Apart.start HLn.out HLn5.out (fun p hp a ha => ⟨(HS9.out p hp a ha).1, (HS9.out p hp a ha).2.1, (HS9.out p hp a ha).2⟩), HE4.out.tr HE45.out, Nat.le_refl _⟩
                  case round =>
                    obtain ⟨q, ms, hq, rfl, hOM, hHM, hmm2, hI9, hOf, hAp, hE5, hz6⟩ := hrel
                    have HApp := Lib.hid hAp
                    have HOM := Lib.hid hOM
                    have HHM := Lib.hid hHM
                    have HMm := Lib.hid hmm2
                    have HI9' := Lib.hid hI9
                    have HOf' := Lib.hid hOf
                    have HE5 := Lib.hid hE5
                    clear HON5 HI9 HOf hOM hHM hmm2 hI9 hOf hE5 hAp
                    by_cases hlt3 : q < n9
                    · have hqi : (q : Int) < n9 := by omega
                      obtain ⟨p, hp⟩ : ∃ p, p9[q]? = some p := ⟨p9[q]'(by rw [HN9.out]; exact hlt3), List.getElem?_eq_getElem _⟩
                      obtain ⟨g9, o9, hA9, hS9, hl9, hc9, hIp⟩ := HI9'.out q p hp
                      obtain ⟨⟨gp, hgp⟩, hpc⟩ := HH9.out p (List.mem_of_getElem? hp)
                      have hp6 := HP9l.out p (List.mem_of_getElem? hp)
                      have HTq := Lib.hid (show (p9.take (q + 1)).map (fun p => PX.rows ⟨eA, ec, eps⟩ ++ [p.xs]) = (p9.take q).map (fun p => PX.rows ⟨eA, ec, eps⟩ ++ [p.xs]) ++ [PX.rows ⟨eA, ec, eps⟩ ++ [p.xs]] by rw [List.take_add_one, hp]; simp)
                      have HPq := Lib.hid hp
                      obtain ⟨pA9, pc9, pxs⟩ := p
                      simp only at hA9 hgp hpc hp6 hIp
                      subst hA9
                      subst hgp
                      simp only [PR.cell] at hc9
                      have HIp := Lib.hid hIp
                      have hml : ms.length ≤ 200 := by
                        have h1 := congrArg List.length HMm.out
                        rw [List.length_map, List.length_append, List.length_map, List.length_take] at h1
                        have := HXl2.out
                        omega
                      have hmk : ∀ W : World, (Instr.makeSlice 41 (.int .i64 0) (.int .i64 3)).run Try.prog W = .ok (.slice (some ⟨W.heap.size, 0, none⟩) 0 3) (W.alloc (.cells #[.slice none 0 0, .slice none 0 0, .slice none 0 0] 39)) := fun W => by
                        obtain ⟨i0, hi, hz0, hz1, hz2⟩ := info_parts infoRow
                        have hq := run_make_rowN (P := Try.prog) 41 39 i0 _ Try.underlying41 hi hz0 .i64 .i64 0 3 (by omega) (by rw [hz2]; omega) (by omega) W
                        rw [hz1, show madeCells (Value.slice none 0 0).cells (3 * 1) = #[.slice none 0 0, .slice none 0 0, .slice none 0 0] from by kernel_rfl] at hq
                        exact hq
                      obtain ⟨wq, hwq⟩ : ∃ wq, wq = wr := ⟨_, rfl⟩
                      subst hwq
                      obtain ⟨vn, hvn⟩ : ∃ vn, vn = u11 := ⟨_, rfl⟩
                      subst hvn
                      have hz7 := HE5.out.size
                      have HO6 := Lib.hid (OutR.made wq (B := wq.heap.size) (fun b => wa.heap.size ≤ b ∧ some b ≠ vn.ownBlock) #[.slice none 0 0, .slice none 0 0, .slice none 0 0] 3 (Nat.le_refl _) (by omega) rfl)
                      have hvl : ∀ g, vn.ownBlock = some g → g < wq.heap.size := fun g hg => (HOM.out.lt g hg).2
                      have HVl := Lib.hid hvl
                      clear hp hS9 hIp hvl
                      go_wp2
                      clear hmk
                      go_loopw [16, 67] (fun v i W => ∃ (m : Nat) (qs : List PR), m ≤ nq ∧ i = .int .i64 m ∧ OutR W wq.heap.size (fun b => wa.heap.size ≤ b ∧ some b ≠ vn.ownBlock) v qs ∧ (∀ q ∈ qs, ∃ g, q.A = some ⟨g, 0, none⟩) ∧ qs.map PR.xs = (PX.rows ⟨eA, ec, eps⟩).take m ∧ LeafR W wq.heap.size v.ownBlock qs ∧ Ext wq W) (fun _ i _ => nq - (intOf i).toNat)
                      case atStart => exact ⟨0, [], Nat.zero_le _, rfl, HO6.out, (fun q hq => by cases hq), rfl, LeafR.nil, by (repeat' (first | (with_reducible exact Below.refl _ _) | (with_reducible refine Below.mono (by assumption) ?_) | (with_reducible refine Below.trans ?_ (Below.mono (by assumption) ?_)) | (with_reducible refine Below.alloc ?_ ?_ _) | (with_reducible refine Below.drew ?_) | (with_reducible refine below_drewN ?_ _) | (with_reducible refine Below.setCell ?_ ?_ _) | (simp only [World.size_alloc, World.size_setCell, World.size_drew, size_drewN]; omega) | omega))⟩
                      case round =>
                        obtain ⟨m, qs, hm, rfl, hOQ, hHQ, hqm, hLq, hE6⟩ := hrel
                        have HLq := Lib.hid hLq
                        have HOQ := Lib.hid hOQ
                        have HHQ := Lib.hid hHQ
                        have HQm := Lib.hid hqm
                        have HE6 := Lib.hid hE6
                        have hz8 := hE6.size
                        clear HO6 hOQ hHQ hqm hE6 hLq
                        by_cases hlt4 : m < nq
                        · have hmi : (m : Int) < nq := by omega
                          obtain ⟨r, hr⟩ : ∃ r, eps[m]? = some r := ⟨eps[m]'(by rw [HNq.out]; exact hlt4), List.getElem?_eq_getElem _⟩
                          obtain ⟨gq, oq, hAe, _, hlq, hcq, hIq⟩ := HIn8.out m r hr
                          obtain ⟨gr, hgr⟩ := HHe.out r (List.mem_of_getElem? hr)
                          have hr6 := HQ6.out r (List.mem_of_getElem? hr)
                          have HTr := Lib.hid (show (PX.rows ⟨eA, ec, eps⟩).take (m + 1) = (PX.rows ⟨eA, ec, eps⟩).take m ++ [r.xs] by unfold PX.rows; rw [List.take_add_one, List.getElem?_map, hr]; rfl)
                          obtain ⟨rA, rc, rxs⟩ := r
                          simp only at hAe hgr hr6 hIq HTr
                          subst hAe
                          subst hgr
                          simp only [PR.cell] at hcq
                          have hcr := (HE5.out.tr HE6.out).keep hlq hcq
                          have HIq := Lib.hid (Ints.ext hIq (HE5.out.tr HE6.out))
                          have hql : qs.length ≤ 3 := by
                            have h1 := congrArg List.length HQm.out
                            rw [List.length_map, List.length_take] at h1
                            omega
                          clear hr hcq hIq
                          go_wp2_with (fail)
                          go_at_call 22
                          refine (clone_c rxs _ gr 0 rc _ (Ints.ext HIq.out (by (repeat' (first | (with_reducible exact Below.refl _ _) | (with_reducible refine Below.mono (by assumption) ?_) | (with_reducible refine Below.trans ?_ (Below.mono (by assumption) ?_)) | (with_reducible refine Below.alloc ?_ ?_ _) | (with_reducible refine Below.drew ?_) | (with_reducible refine below_drewN ?_ _) | (with_reducible refine Below.setCell ?_ ?_ _) | (simp only [World.size_alloc, World.size_setCell, World.size_drew, size_drewN]; omega) | omega)))) (by omega)).mono ?_
                          rintro e w7 ⟨v7, rfl, hO7, hb, hv7⟩
                          obtain ⟨hc, hf, hz, hs⟩ := bcell hb
                          (try simp only [World.size_alloc, World.size_setCell, World.size_drew, size_drewN] at hs); (first | have l0 := Nat.lt_of_lt_of_le l0 (show _ ≤ w7.heap.size by omega) | have l0 : w.heap.size < w7.heap.size := (by omega) | skip); (try have l0e := Nat.le_of_lt l0); (try have l0f := Nat.le_add_right_of_le (k := 1) l0e); (try have l1 := Nat.lt_of_lt_of_le l1 (show _ ≤ w7.heap.size by omega)); (try have l1e := Nat.le_of_lt l1); (try have l1f := Nat.le_add_right_of_le (k := 1) l1e); (try have l2 := Nat.lt_of_lt_of_le l2 (show _ ≤ w7.heap.size by omega)); (try have l2e := Nat.le_of_lt l2); (try have l2f := Nat.le_add_right_of_le (k := 1) l2e); (try have l3 := Nat.lt_of_lt_of_le l3 (show _ ≤ w7.heap.size by omega)); (try have l3e := Nat.le_of_lt l3); (try have l3f := Nat.le_add_right_of_le (k := 1) l3e)
                          obtain ⟨g7, c7, rfl, hg7, hI7, hle7⟩ := own1_blk hO7 hv7
                          have HE7 := Lib.hid (show Ext wr w7 from hb)
                          have HS7 := Lib.hid (show wr.heap.size ≤ g7 ∧ Soft w7 g7 from ⟨hg7, (own1_frozen hO7 _ rfl).2.1, (own1_frozen hO7 _ rfl).2.2⟩)
                          have hz9 := hb.size
                          have HI7 := Lib.hid (show Ints (fun b => (wa.heap.size ≤ b ∧ some b ≠ vn.ownBlock) ∧ some b ≠ u16.ownBlock) w7 (some ⟨g7, 0, none⟩) rxs from SlAt.mono hI7 (fun b hb _ => ⟨⟨by omega, fun e => by have := HVl.out b e.symm; omega⟩, fun e => by have := (HOQ.out.lt b e.symm).2; omega⟩) (fun _ _ h => h))
                          have HOQ7 := Lib.hid (HOQ.out.ext HE7.out)
                          have HOl := Lib.hid (fun g hg => (HOQ.out.lt g hg).1)
                          have HOq := Lib.hid (fun g hg => (HOQ.out.lt g hg).2)
                          clear hO7 hv7 hb hc hf hz hI7 HOQ
                          go_wp2_with (at_builtin; go_loud (refine wpList_appendO _ rfl _ _ 41 rfl Try.underlying41 infoRow rfl wq.heap.size _ _ qs rfl (HOQ7.out.ext (by (repeat' (first | (with_reducible exact Below.refl _ _) | (with_reducible refine Below.mono (by assumption) ?_) | (with_reducible refine Below.trans ?_ (Below.mono (by assumption) ?_)) | (with_reducible refine Below.alloc ?_ ?_ _) | (with_reducible refine Below.drew ?_) | (with_reducible refine below_drewN ?_ _) | (with_reducible refine Below.setCell ?_ ?_ _) | (simp only [World.size_alloc, World.size_setCell, World.size_drew, size_drewN]; omega) | omega)))) ⟨some ⟨g7, 0, none⟩, c7, rxs⟩ (Ints.ext HI7.out (by (repeat' (first | (with_reducible exact Below.refl _ _) | (with_reducible refine Below.mono (by assumption) ?_) | (with_reducible refine Below.trans ?_ (Below.mono (by assumption) ?_)) | (with_reducible refine Below.alloc ?_ ?_ _) | (with_reducible refine Below.drew ?_) | (with_reducible refine below_drewN ?_ _) | (with_reducible refine Below.setCell ?_ ?_ _) | (simp only [World.size_alloc, World.size_setCell, World.size_drew, size_drewN]; omega) | omega)))) _ rfl ?_ (by omega) ?_ ?_))
                          · first | (simp [PR.cell]; done) | exact (litF _ _ _ 0).trans rfl
                          · simp only [World.size_alloc]; omega
                          · intro v8 w8 hO8 hg8 hat8
                            have HL8 := Lib.hid (HLq.out.push (W' := w8) (vb' := v8.ownBlock) (g := g7) (c := c7) (xs := rxs) (HE7.out.tr (show Ext w7 (w7.alloc (.cells #[.slice (some ⟨g7, 0, none⟩) rxs.length c7] 39)) by (repeat' (first | (with_reducible exact Below.refl _ _) | (with_reducible refine Below.mono (by assumption) ?_) | (with_reducible refine Below.trans ?_ (Below.mono (by assumption) ?_)) | (with_reducible refine Below.alloc ?_ ?_ _) | (with_reducible refine Below.drew ?_) | (with_reducible refine below_drewN ?_ _) | (with_reducible refine Below.setCell ?_ ?_ _) | (simp only [World.size_alloc, World.size_setCell, World.size_drew, size_drewN]; omega) | omega)))) hg8 (by rw [World.size_alloc]; exact hat8) (fun hm => by have := (HLq.out.soft g7 hm).2.1.1; have := HS7.out.1; omega) ⟨by have := HS7.out.1; omega, HS7.out.2.ext (show Ext w7 (w7.alloc (.cells #[.slice (some ⟨g7, 0, none⟩) rxs.length c7] 39)) by (repeat' (first | (with_reducible exact Below.refl _ _) | (with_reducible refine Below.mono (by assumption) ?_) | (with_reducible refine Below.trans ?_ (Below.mono (by assumption) ?_)) | (with_reducible refine Below.alloc ?_ ?_ _) | (with_reducible refine Below.drew ?_) | (with_reducible refine below_drewN ?_ _) | (with_reducible refine Below.setCell ?_ ?_ _) | (simp only [World.size_alloc, World.size_setCell, World.size_drew, size_drewN]; omega) | omega))), fun e => by have := HOq.out g7 e.symm; have := HS7.out.1; omega⟩)
                            have hE8 : Ext wq w8 := Below.grown ((HE6.out.tr HE7.out).tr (show Ext w7 (w7.alloc (.cells #[.slice (some ⟨g7, 0, none⟩) rxs.length c7] 39)) by (repeat' (first | (with_reducible exact Below.refl _ _) | (with_reducible refine Below.mono (by assumption) ?_) | (with_reducible refine Below.trans ?_ (Below.mono (by assumption) ?_)) | (with_reducible refine Below.alloc ?_ ?_ _) | (with_reducible refine Below.drew ?_) | (with_reducible refine below_drewN ?_ _) | (with_reducible refine Below.setCell ?_ ?_ _) | (simp only [World.size_alloc, World.size_setCell, World.size_drew, size_drewN]; omega) | omega)))) hg8 (by simp only [World.size_alloc]; omega) (fun g hg => HOl.out g hg)
                            have HO8 := Lib.hid hO8
                            have HE8 := Lib.hid hE8
                            clear hO8 hg8 hE8 hat8
                            go_wp2
                            go_roundw
                            case measure => simp [intOf]; omega
                            case rel => exact ⟨m + 1, _, by omega, by go_num, HO8.out, (fun q hq => by
                              rcases List.mem_append.1 hq with hq | hq
                              · exact HHQ.out q hq
                              · obtain rfl := List.mem_singleton.1 hq
                                exact ⟨_, rfl⟩), by rw [List.map_append, HQm.out, HTr.out]; rfl, HL8.out, HE8.out⟩
                        · obtain rfl : m = nq := by omega
                          have hq2 : qs.map PR.xs = PX.rows ⟨eA, ec, eps⟩ := by
                            rw [HQm.out, List.take_of_length_le (by unfold PX.rows; rw [List.length_map, HNq.out]; exact Nat.le_refl _)]
                          have HQ2 := Lib.hid hq2
                          have hql : qs.length ≤ 3 := by
                            have h1 := congrArg List.length hq2
                            unfold PX.rows at h1
                            rw [List.length_map, List.length_map, HNq.out] at h1
                            omega
                          have HIo := Lib.hid (show Ints (fun b => (wa.heap.size ≤ b ∧ some b ≠ vn.ownBlock) ∧ some b ≠ u16.ownBlock) wr (some ⟨gp, 0, none⟩) pxs from SlAt.mono (Ints.ext HIp.out HE6.out) (fun b hb _ => by
                            have hb1 : w4.heap.size ≤ b ∧ b < w5.heap.size := hb
                            exact ⟨⟨by omega, fun e => by have := HOf'.out b e.symm; omega⟩, fun e => by have := (HOQ.out.lt b e.symm).1; omega⟩) (fun _ _ h => h))
                          have HOl := Lib.hid (fun g hg => (HOQ.out.lt g hg).1)
                          have HSg := Lib.hid (show w4.heap.size ≤ gp ∧ gp < w5.heap.size ∧ Soft wq gp from HApp.out.soft9 _ (List.mem_of_getElem? HPq.out) ⟨gp, 0, none⟩ rfl)
                          clear hq2
                          go_wp2_with (fail)
                          go_at_call 23
                          refine (clipI_c _ _ _ _ hpc).mono ?_
                          rintro e w9 ⟨rfl, rfl⟩
                          go_wp2_with (at_builtin; go_loud (refine wpList_appendO _ rfl _ _ 41 rfl Try.underlying41 infoRow rfl wq.heap.size _ _ qs rfl (HOQ.out.ext (by (repeat' (first | (with_reducible exact Below.refl _ _) | (with_reducible refine Below.mono (by assumption) ?_) | (with_reducible refine Below.trans ?_ (Below.mono (by assumption) ?_)) | (with_reducible refine Below.alloc ?_ ?_ _) | (with_reducible refine Below.drew ?_) | (with_reducible refine below_drewN ?_ _) | (with_reducible refine Below.setCell ?_ ?_ _) | (simp only [World.size_alloc, World.size_setCell, World.size_drew, size_drewN]; omega) | omega)))) ⟨some ⟨gp, 0, none⟩, pxs.length, pxs⟩ (Ints.ext HIo.out (by (repeat' (first | (with_reducible exact Below.refl _ _) | (with_reducible refine Below.mono (by assumption) ?_) | (with_reducible refine Below.trans ?_ (Below.mono (by assumption) ?_)) | (with_reducible refine Below.alloc ?_ ?_ _) | (with_reducible refine Below.drew ?_) | (with_reducible refine below_drewN ?_ _) | (with_reducible refine Below.setCell ?_ ?_ _) | (simp only [World.size_alloc, World.size_setCell, World.size_drew, size_drewN]; omega) | omega)))) _ rfl ?_ (by omega) ?_ ?_))
                          · first | (simp [PR.cell]; done) | exact (litF _ _ _ 0).trans rfl
                          · simp only [World.size_alloc]; omega
                          · intro v8 w8 hO8 hg8 hat8
                            have HL8 := Lib.hid (HLq.out.pushOld (W' := w8) (vb' := v8.ownBlock) (g := gp) (c := pxs.length) (xs := pxs) (show Ext w9 (w9.alloc (.cells #[.slice (some ⟨gp, 0, none⟩) pxs.length pxs.length] 39)) by (repeat' (first | (with_reducible exact Below.refl _ _) | (with_reducible refine Below.mono (by assumption) ?_) | (with_reducible refine Below.trans ?_ (Below.mono (by assumption) ?_)) | (with_reducible refine Below.alloc ?_ ?_ _) | (with_reducible refine Below.drew ?_) | (with_reducible refine below_drewN ?_ _) | (with_reducible refine Below.setCell ?_ ?_ _) | (simp only [World.size_alloc, World.size_setCell, World.size_drew, size_drewN]; omega) | omega))) hg8 (by rw [World.size_alloc]; exact hat8) (lo' := wa.heap.size) (by omega) (by have := HSg.out.2.1; omega) ⟨by have := HSg.out.1; omega, ((HSg.out.2.2.ext HE6.out).ext (show Ext w9 (w9.alloc (.cells #[.slice (some ⟨gp, 0, none⟩) pxs.length pxs.length] 39)) by (repeat' (first | (with_reducible exact Below.refl _ _) | (with_reducible refine Below.mono (by assumption) ?_) | (with_reducible refine Below.trans ?_ (Below.mono (by assumption) ?_)) | (with_reducible refine Below.alloc ?_ ?_ _) | (with_reducible refine Below.drew ?_) | (with_reducible refine below_drewN ?_ _) | (with_reducible refine Below.setCell ?_ ?_ _) | (simp only [World.size_alloc, World.size_setCell, World.size_drew, size_drewN]; omega) | omega)))), fun e => by have := HOl.out gp e.symm; have := HSg.out.2.1; omega⟩)
                            have hE8 : Ext wq w8 := Below.grown (HE6.out.tr (show Ext w9 (w9.alloc (.cells #[.slice (some ⟨gp, 0, none⟩) pxs.length pxs.length] 39)) by (repeat' (first | (with_reducible exact Below.refl _ _) | (with_reducible refine Below.mono (by assumption) ?_) | (with_reducible refine Below.trans ?_ (Below.mono (by assumption) ?_)) | (with_reducible refine Below.alloc ?_ ?_ _) | (with_reducible refine Below.drew ?_) | (with_reducible refine below_drewN ?_ _) | (with_reducible refine Below.setCell ?_ ?_ _) | (simp only [World.size_alloc, World.size_setCell, World.size_drew, size_drewN]; omega) | omega)))) hg8 (by simp only [World.size_alloc]; omega) (fun g hg => HOl.out g hg)
                            have hz10 := hE8.size
                            obtain ⟨A10, c10, hv10, hle10, hin10⟩ := hO8.inx (T := fun b => wa.heap.size ≤ b ∧ some b ≠ vn.ownBlock) (fun b hb => hb) (fun g hg => by
                              have h1 := (hO8.lt g hg).1
                              exact ⟨by omega, fun e => by have := HVl.out g e.symm; omega⟩)
                            subst hv10
                            have HOw := Lib.hid (fun a (ha : A10 = some a) => (hO8.lt a.block (by rw [ha]; rfl)))
                            have HE8 := Lib.hid hE8
                            have HI10 := Lib.hid hin10
                            obtain ⟨n10, hn10⟩ : ∃ n10, (qs ++ [(⟨some ⟨gp, 0, none⟩, pxs.length, pxs⟩ : PR)]).length = n10 := ⟨_, rfl⟩
                            rw [hn10]
                            have HN10 := Lib.hid hn10
                            have HOM8 := Lib.hid (HOM.out.ext hE8)
                            have HIx := Lib.hid (HI9'.out.ext hE8)
                            clear hO8 hg8 hE8 hin10 hn10 hle10 hat8
                            go_wp2_with (at_builtin; go_loud (refine wpList_appendX _ rfl _ _ 24 rfl Try.underlying24 infoRows rfl wa.heap.size vn ms rfl (HOM8.out.ext (by (repeat' (first | (with_reducible exact Below.refl _ _) | (with_reducible refine Below.mono (by assumption) ?_) | (with_reducible refine Below.trans ?_ (Below.mono (by assumption) ?_)) | (with_reducible refine Below.alloc ?_ ?_ _) | (with_reducible refine Below.drew ?_) | (with_reducible refine below_drewN ?_ _) | (with_reducible refine Below.setCell ?_ ?_ _) | (simp only [World.size_alloc, World.size_setCell, World.size_drew, size_drewN]; omega) | omega)))) ⟨A10, c10, qs ++ [⟨some ⟨gp, 0, none⟩, pxs.length, pxs⟩]⟩ (HI10.out.ext (by (repeat' (first | (with_reducible exact Below.refl _ _) | (with_reducible refine Below.mono (by assumption) ?_) | (with_reducible refine Below.trans ?_ (Below.mono (by assumption) ?_)) | (with_reducible refine Below.alloc ?_ ?_ _) | (with_reducible refine Below.drew ?_) | (with_reducible refine below_drewN ?_ _) | (with_reducible refine Below.setCell ?_ ?_ _) | (simp only [World.size_alloc, World.size_setCell, World.size_drew, size_drewN]; omega) | omega)))) _ rfl ?_ (by omega) ?_ ?_))
                            · unfold PX.cell
                              rw [HN10.out]
                              first | (simp; done) | exact (litF _ _ _ 0).trans rfl
                            · simp only [World.size_alloc]; omega
                            · intro v11 w11 hO11 hg11 hat11
                              have HF3 := Lib.hid (step_outX (wb := wa) HOM.out (Nat.le_refl _) (HIx.out.ext (show Ext w8 (w8.alloc (.cells #[.slice A10 n10 c10] 41)) by (repeat' (first | (with_reducible exact Below.refl _ _) | (with_reducible refine Below.mono (by assumption) ?_) | (with_reducible refine Below.trans ?_ (Below.mono (by assumption) ?_)) | (with_reducible refine Below.alloc ?_ ?_ _) | (with_reducible refine Below.drew ?_) | (with_reducible refine below_drewN ?_ _) | (with_reducible refine Below.setCell ?_ ?_ _) | (simp only [World.size_alloc, World.size_setCell, World.size_drew, size_drewN]; omega) | omega)))) HOf'.out hg11 (by rw [World.size_alloc]; exact hat11) ((HE5.out.tr HE8.out).tr (show Ext w8 (w8.alloc (.cells #[.slice A10 n10 c10] 41)) by (repeat' (first | (with_reducible exact Below.refl _ _) | (with_reducible refine Below.mono (by assumption) ?_) | (with_reducible refine Below.trans ?_ (Below.mono (by assumption) ?_)) | (with_reducible refine Below.alloc ?_ ?_ _) | (with_reducible refine Below.drew ?_) | (with_reducible refine below_drewN ?_ _) | (with_reducible refine Below.setCell ?_ ?_ _) | (simp only [World.size_alloc, World.size_setCell, World.size_drew, size_drewN]; omega) | omega)))) (by simp only [World.size_alloc]; omega))
                              have HA11 := Lib.hid (HApp.out.step (W' := w11) (vb' := v11.ownBlock) (c := pxs.length) (p := ⟨A10, c10, qs ++ [⟨some ⟨gp, 0, none⟩, pxs.length, pxs⟩]⟩) HPq.out rfl (HE8.out.tr (show Ext w8 (w8.alloc (.cells #[.slice A10 n10 c10] 41)) by (repeat' (first | (with_reducible exact Below.refl _ _) | (with_reducible refine Below.mono (by assumption) ?_) | (with_reducible refine Below.trans ?_ (Below.mono (by assumption) ?_)) | (with_reducible refine Below.alloc ?_ ?_ _) | (with_reducible refine Below.drew ?_) | (with_reducible refine below_drewN ?_ _) | (with_reducible refine Below.setCell ?_ ?_ _) | (simp only [World.size_alloc, World.size_setCell, World.size_drew, size_drewN]; omega) | omega)))) hg11 (by rw [World.size_alloc]; exact hat11) HL8.out.nodup (fun b hb => (HL8.out.soft b hb).imp_right (fun h => ⟨h.1.ext (show Ext w8 (w8.alloc (.cells #[.slice A10 n10 c10] 41)) by (repeat' (first | (with_reducible exact Below.refl _ _) | (with_reducible refine Below.mono (by assumption) ?_) | (with_reducible refine Below.trans ?_ (Below.mono (by assumption) ?_)) | (with_reducible refine Below.alloc ?_ ?_ _) | (with_reducible refine Below.drew ?_) | (with_reducible refine below_drewN ?_ _) | (with_reducible refine Below.setCell ?_ ?_ _) | (simp only [World.size_alloc, World.size_setCell, World.size_drew, size_drewN]; omega) | omega))), h.2⟩)) (fun b hb => (HLq.out.soft b hb).1) hz6 (fun g hg => HVl.out g hg) HOf'.out HAp.out (fun a ha => ⟨(HOw.out a ha).1, by have := (HOw.out a ha).2; simp only [World.size_alloc]; omega⟩))
                              have HO11 := Lib.hid hO11
                              clear hO11 hg11 hat11
                              go_wp2
                              exact ⟨⟨q + 1, _, by omega, by go_num, HO11.out, HHM.out.app (fun q hq => by
                                rcases List.mem_append.1 hq with hq | hq
                                · exact HHQ.out q hq
                                · obtain rfl := List.mem_singleton.1 hq
                                  exact ⟨_, rfl⟩), by
                                rw [List.map_append, HMm.out, HTq.out, List.append_assoc]
                                congr 2
                                show [PX.rows ⟨A10, c10, qs ++ [⟨some ⟨gp, 0, none⟩, pxs.length, pxs⟩]⟩] = _
                                rw [← HQ2.out]
                                simp [PX.rows], HF3.out.1, HF3.out.2.1, HA11.out, HF3.out.2.2.1, HF3.out.2.2.2⟩, by simp [intOf]; omega⟩
                    · obtain rfl : q = n9 := by omega
                      have hm3 : List.map PX.rows ms = extV ((allL (ls.take j)).take (n + 1)) pl := by
                        rw [HMm.out, HTk.out, show p9.take q = p9 from List.take_of_length_le (by rw [HN9.out]; exact Nat.le_refl _)]
                        unfold extO
                        rw [← HM9.out, List.map_map]
                        rfl
                      have HM3 := Lib.hid hm3
                      clear hm3
                      go_wp2
                      exact ⟨⟨n + 1, ms, by omega, by go_num, HOM.out, HHM.out, HM3.out, HApp.out.leaf, HE5.out⟩, by simp [intOf]; omega⟩
                · obtain rfl : n = ne := by omega
                  have hm3 : List.map PX.rows ns = allL (ls.take (j + 1)) := by
                    rw [HNm.out, allL_take HLk.out, List.take_of_length_le (by rw [← HEm.out, List.length_map, HNe.out]; exact Nat.le_refl _)]
                  have HM3 := Lib.hid hm3
                  clear hm3
                  have HF := Lib.hid (show OutX wr w0.heap.size u11 ns ∧ Ext w0 wr ∧ LeafX wr w0.heap.size u11.ownBlock ns from ⟨HON.out.below hz0, HE.out.tr HE4.out, HLn.out.below hz0⟩)
                  go_wp2
                  exact ⟨⟨j + 1, ns, by omega, by go_num, HF.out.1, HHN.out, HM3.out, HF.out.2.2, HF.out.2.1⟩, by simp [intOf]; omega⟩
            · obtain rfl : j = k := by omega
              have hz0' := HE1.out.size
              have hR2 : es.map PX.rows = R := by rw [HEm.out, HR0.out, List.take_of_length_le (by rw [HLl.out]; omega)]
              obtain ⟨A8, c8, hv8, hle8, hcs⟩ := HOx.out.cells
              subst hv8
              have HF := Lib.hid (FreshL.of (c' := es.length) HOx.out HHx.out HLx.out hz0' (HE1.out.tr HE.out))
              rw [hR2] at HF
              have HR2 := Lib.hid hR2
              clear hR2 hcs
              go_wp2_with (fail)
              go_at_call 24
              refine (clipX_c A8 es.length c8 _ hle8).mono ?_
              rintro e w9 ⟨rfl, rfl⟩
              go_wp2
              go_ret
              exact HF.out
end Go.Proofs.Ytdgfipoibnjhaaa
