/-
  The program's list of all orders of a list.
-/
import Derived.Test.YtdgfipoibnjhaaaPermS
import Derived.Test.YtdgfipoibnjhaaaConc
namespace Go.Proofs.Ytdgfipoibnjhaaa
set_option linter.unusedSimpArgs false
set_option linter.unusedVariables false
set_option maxRecDepth 100000
open Go.RowKit

theorem ints_takeP {S : Nat → Prop} {w : World} {A : Option Addr} {xs : List Int} (h : Ints S w A xs) (n : Nat) : Ints S w A (xs.take n) := fun i x hx => by
  have hi : i < (xs.take n).length := (List.getElem?_eq_some_iff.1 hx).1
  rw [List.length_take] at hi
  rw [List.getElem?_take_of_lt (by omega)] at hx
  exact h i x hx
set_option maxHeartbeats 8000000 in
theorem permuted_c : ∀ (n : Nat) (l : List Int) (S : Nat → Prop) (A : Option Addr) (c : Nat) (w : World), l.length = n → n ≤ 6 → Ints S w A l → l.length ≤ c → Calls Try.prog 21 #[.slice A l.length c] w (PermR l w) := by
  intro n
  induction n with
  | zero =>
    intro l S A c w hn h6 hx hc
    obtain rfl := List.eq_nil_of_length_eq_zero hn
    rw [List.length_nil]
    clear hx hc hn
    go_enter Try.func21, Try.ntmps21
    go_wp2
    go_ret
    exact ⟨_, _, rfl, OwnR.unit w, rfl, HasR.app HasR.nil ⟨_, rfl⟩ (Nat.le_refl _), by (repeat' (first | (with_reducible exact Below.refl _ _) | (with_reducible refine Below.mono (by assumption) ?_) | (with_reducible refine Below.trans ?_ (Below.mono (by assumption) ?_)) | (with_reducible refine Below.alloc ?_ ?_ _) | (with_reducible refine Below.drew ?_) | (with_reducible refine below_drewN ?_ _) | (with_reducible refine Below.setCell ?_ ?_ _) | (simp only [World.size_alloc, World.size_setCell, World.size_drew, size_drewN]; omega) | omega))⟩
  | succ n ih =>
    intro l S A c w hn h6 hx hc
    have hl0 : 0 < l.length := by omega
    have hl6 : l.length ≤ 6 := by omega
    have hr00 : ((l.length : Int) == 0) = false := beq_eq_false_iff_ne.2 (by omega)
    have HPm := Lib.hid (prm_to (l := l) (by intro e; rw [e] at hl0; simp at hl0))
    have HN := Lib.hid hn
    have HX := Lib.hid hx
    have hcc := hc
    clear hn hx
    go_enter Try.func21, Try.ntmps21
    go_wp2
    have hO0 : OwnR (w.alloc (.cells #[] 39)) w.heap.size (.slice (some ⟨w.heap.size, 0, none⟩) 0 0) [] := OwnR.made w #[] 0 (Nat.le_refl _) (by omega) rfl
    have HO0 := Lib.hid hO0
    clear hO0 hc
    go_loopw [3, 17] (fun v i W => ∃ (k : Nat) (ps : List PR), k ≤ l.length ∧ i = .int .i64 k ∧ OwnR W w.heap.size v ps ∧ ps.map PR.xs = prmTo l k ∧ HasR ps ∧ Ext w W) (fun _ i _ => l.length - (intOf i).toNat)
    case atStart => exact ⟨0, [], Nat.zero_le _, rfl, HO0.out, rfl, HasR.nil, by (repeat' (first | (with_reducible exact Below.refl _ _) | (with_reducible refine Below.mono (by assumption) ?_) | (with_reducible refine Below.trans ?_ (Below.mono (by assumption) ?_)) | (with_reducible refine Below.alloc ?_ ?_ _) | (with_reducible refine Below.drew ?_) | (with_reducible refine below_drewN ?_ _) | (with_reducible refine Below.setCell ?_ ?_ _) | (simp only [World.size_alloc, World.size_setCell, World.size_drew, size_drewN]; omega) | omega))⟩
    case round =>
      obtain ⟨k, ps, hk, rfl, hOw, hpm, hha, hE⟩ := hrel
      have HOw := Lib.hid hOw
      have HPs := Lib.hid hpm
      have HHa := Lib.hid hha
      have hEz := hE.size
      clear HO0 hOw hpm hha
      by_cases hlt : k < l.length
      · obtain ⟨x, b, off, hxk, rfl, _, hb00, cv0⟩ := HX.out.at_ hlt
        have cv := hE.keep hb00 cv0
        have hb0 : b < wr.heap.size := by omega
        have hki : (k : Int) < l.length := by omega
        have hk0 : (0 : Int) ≤ (k : Int) := by omega
        have hk1 : (k : Int) + 1 ≤ l.length := by omega
        have hkc : (k : Int) ≤ c := by omega
        have hwr : IntKind.i64.wrap ((k : Int) + 1) = (k : Int) + 1 := by rw [IntKind.wrap_i64]; omega
        have htk : (l.take k).length = k := by rw [List.length_take]; omega
        have hdr : (l.drop (k + 1)).length = l.length - (k + 1) := List.length_drop
        have hadd := ints_add (HX.out.ext hE)
        have n1 : ∀ j y, (l.take k)[j]? = some y → wr.cell? (Addr.add ⟨b, off, none⟩ j) = some (.int .i64 y) := fun j y hj => by
          have hjk : j < k := by have := (List.getElem?_eq_some_iff.1 hj).1; omega
          rw [List.getElem?_take_of_lt hjk] at hj
          exact hadd j y hj
        have n2 : ∀ j y, (l.drop (k + 1))[j]? = some y → wr.cell? (Addr.add ⟨b, off + (k + 1), none⟩ j) = some (.int .i64 y) := ints_add (ints_drop (HX.out.ext hE) (k + 1))
        have hO : Own1 (wr.alloc (.cells #[] 3)) wr.heap.size 3 (.slice (some ⟨wr.heap.size, 0, none⟩) 0 0) [] := Own1.made wr #[] 0 rfl (Nat.le_refl _) (by omega) rfl
        have hk2 : (0 : Int) ≤ (k : Int) + 1 := by omega
        have hcl : (l.length : Int) ≤ c := by omega
        have hk3 : ((k : Int) + 1).toNat = k + 1 := by omega
        have hk4 : (k : Int) + 1 ≤ c := by omega
        have HLf := Lib.hid (show l.take k ++ l.drop (k + 1) = l.eraseIdx k from (List.eraseIdx_eq_take_drop_succ l k).symm)
        have HLe := Lib.hid (erase_len hlt)
        have HPk := Lib.hid (prmTo_succ hxk)
        clear hxk
        go_upto_region 7 with (fail)
        go_cut [6] from 18 to 46 (fun v W => Own1 W wr.heap.size 3 v (l.eraseIdx k) ∧ Ext wr W)
        case first =>
          by_cases hcq : c = k + 1
          · have hrk : l.length = k + 1 := by omega
            have hc5 : c - (k + 1) = 0 := by omega
            have hc6 : c ≤ k + 1 := by omega
            have hcT : (c = k + 1) = True := eq_true hcq
            have hd0 : l.drop (k + 1) = [] := List.drop_eq_nil_of_le (by omega)
            have hr0 : l.length - (k + 1) = 0 := by omega
            have CC := fun (c1 c2 : Nat) W hB hx hy => concat_c (l.take k) [] wr.heap.size b off c1 b off c2 S Any W hB hx hy (by rw [htk]; simp; omega)
            simp only [htk, List.length_nil] at CC
            have CC := Lib.hid CC
            have HD0 := Lib.hid hd0
            have HBk := Lib.hid (show Blk (wr.alloc (.cells #[.slice (some ⟨b, off, none⟩) k c, .slice (some ⟨b, off, none⟩) 0 0] 39)).drew wr.heap.size 39 #[.slice (some ⟨b, off, none⟩) k c, .slice (some ⟨b, off, none⟩) 0 0] from Blk.new wr 39 _)
            clear hd0 hrk hcq n1 n2 hO
            go_region_held3 (fun _ => True) (trivial) (first
              | (go_at_call 39; with_reducible refine (CC.out c 0 _ HBk.out (ints_takeP (Ints.ext HX.out (hE.tr (by (repeat' (first | (with_reducible exact Below.refl _ _) | (with_reducible refine Below.mono (by assumption) ?_) | (with_reducible refine Below.trans ?_ (Below.mono (by assumption) ?_)) | (with_reducible refine Below.alloc ?_ ?_ _) | (with_reducible refine Below.drew ?_) | (with_reducible refine below_drewN ?_ _) | (with_reducible refine Below.setCell ?_ ?_ _) | (simp only [World.size_alloc, World.size_setCell, World.size_drew, size_drewN]; omega) | omega))))) k) SlAt.nil).mono ?_; rintro e w3 ⟨v3, rfl, hO3, hb3⟩
                 have hE3 : Ext wr w3 := Ext.tr (by (repeat' (first | (with_reducible exact Below.refl _ _) | (with_reducible refine Below.mono (by assumption) ?_) | (with_reducible refine Below.trans ?_ (Below.mono (by assumption) ?_)) | (with_reducible refine Below.alloc ?_ ?_ _) | (with_reducible refine Below.drew ?_) | (with_reducible refine below_drewN ?_ _) | (with_reducible refine Below.setCell ?_ ?_ _) | (simp only [World.size_alloc, World.size_setCell, World.size_drew, size_drewN]; omega) | omega))) hb3))
            have e : l.take k ++ [] = l.eraseIdx k := by rw [← HLf.out, HD0.out]
            rw [e] at hO3
            have HF := Lib.hid (And.intro (Own1.below hO3 (show wr.heap.size ≤ _ by simp only [World.size_alloc, World.size_drew]; omega)) hE3)
            clear hO3 hE3 hb3
            go_wp2_with (fail)
            go_meet
            exact HF.out
          · have hc5 : ¬ (c - (k + 1) = 0) := by omega
            have hc6 : ¬ (c ≤ k + 1) := by omega
            have hc7 : ¬ ((c : Int) = (k : Int) + 1) := by omega
            have CC := fun (c1 c2 : Nat) W hB hx hy => concat_c (l.take k) (l.drop (k + 1)) wr.heap.size b off c1 b (off + (k + 1)) c2 S S W hB hx hy (by rw [htk, hdr]; omega)
            simp only [htk, hdr] at CC
            have CC := Lib.hid CC
            have HBk := Lib.hid (show Blk (wr.alloc (.cells #[.slice (some ⟨b, off, none⟩) k c, .slice (some ⟨b, off + (k + 1), none⟩) (l.length - (k + 1)) (c - (k + 1))] 39)).drew wr.heap.size 39 #[.slice (some ⟨b, off, none⟩) k c, .slice (some ⟨b, off + (k + 1), none⟩) (l.length - (k + 1)) (c - (k + 1))] from Blk.new wr 39 _)
            clear n1 n2 hO
            go_region_held3 (fun _ => True) (trivial) (first
              | (go_at_call 39; with_reducible refine (CC.out c (c - (k + 1)) _ HBk.out (ints_takeP (Ints.ext HX.out (hE.tr (by (repeat' (first | (with_reducible exact Below.refl _ _) | (with_reducible refine Below.mono (by assumption) ?_) | (with_reducible refine Below.trans ?_ (Below.mono (by assumption) ?_)) | (with_reducible refine Below.alloc ?_ ?_ _) | (with_reducible refine Below.drew ?_) | (with_reducible refine below_drewN ?_ _) | (with_reducible refine Below.setCell ?_ ?_ _) | (simp only [World.size_alloc, World.size_setCell, World.size_drew, size_drewN]; omega) | omega))))) k) (ints_drop (Ints.ext HX.out (hE.tr (by (repeat' (first | (with_reducible exact Below.refl _ _) | (with_reducible refine Below.mono (by assumption) ?_) | (with_reducible refine Below.trans ?_ (Below.mono (by assumption) ?_)) | (with_reducible refine Below.alloc ?_ ?_ _) | (with_reducible refine Below.drew ?_) | (with_reducible refine below_drewN ?_ _) | (with_reducible refine Below.setCell ?_ ?_ _) | (simp only [World.size_alloc, World.size_setCell, World.size_drew, size_drewN]; omega) | omega))))) (k + 1))).mono ?_; rintro e w3 ⟨v3, rfl, hO3, hb3⟩
                 have hE3 : Ext wr w3 := Ext.tr (by (repeat' (first | (with_reducible exact Below.refl _ _) | (with_reducible refine Below.mono (by assumption) ?_) | (with_reducible refine Below.trans ?_ (Below.mono (by assumption) ?_)) | (with_reducible refine Below.alloc ?_ ?_ _) | (with_reducible refine Below.drew ?_) | (with_reducible refine below_drewN ?_ _) | (with_reducible refine Below.setCell ?_ ?_ _) | (simp only [World.size_alloc, World.size_setCell, World.size_drew, size_drewN]; omega) | omega))) hb3))
            rw [HLf.out] at hO3
            have HF := Lib.hid (And.intro (Own1.below hO3 (show wr.heap.size ≤ _ by simp only [World.size_alloc, World.size_drew]; omega)) hE3)
            clear hO3 hE3 hb3
            go_wp2_with (fail)
            go_meet
            exact HF.out
        case rest =>
          obtain ⟨hO9, hE9⟩ := hcut
          obtain ⟨C9, cc9, rfl, hI9, hle9⟩ := own1_capF hO9
          have hnn := HN.out
          have hle := HLe.out
          have hn9 : (l.eraseIdx k).length = n := by omega
          have IH := Lib.hid (ih (l.eraseIdx k) (fun b => wr.heap.size ≤ b) C9 cc9 wc hn9 (by omega) hI9 hle9)
          have HE9 := Lib.hid hE9
          have hz9 := hE9.size
          have cv9 := hE9.keep hb0 cv
          have hb9 : b < wc.heap.size := by omega
          have HO9 := Lib.hid (HOw.out.ext hE9)
          clear hO9 hI9 hE9 n1 n2 hadd hO hdr htk hle hle9 HOw hn9 hnn
          go_wp2_with (fail)
          go_at_call 21
          refine (IH.out).mono ?_
          rintro e w8 ⟨v8, p8, rfl, hO8, hm8, hh8, hb⟩
          obtain ⟨hc, hf, hz, hs⟩ := bcell hb
          (try simp only [World.size_alloc, World.size_setCell, World.size_drew, size_drewN] at hs); (first | have l0 := Nat.lt_of_lt_of_le l0 (show _ ≤ w8.heap.size by omega) | have l0 : w.heap.size < w8.heap.size := (by omega) | skip); (try have l0e := Nat.le_of_lt l0); (try have l0f := Nat.le_add_right_of_le (k := 1) l0e); (try have l1 := Nat.lt_of_lt_of_le l1 (show _ ≤ w8.heap.size by omega)); (try have l1e := Nat.le_of_lt l1); (try have l1f := Nat.le_add_right_of_le (k := 1) l1e); (try have l2 := Nat.lt_of_lt_of_le l2 (show _ ≤ w8.heap.size by omega)); (try have l2e := Nat.le_of_lt l2); (try have l2f := Nat.le_add_right_of_le (k := 1) l2e); (try have l3 := Nat.lt_of_lt_of_le l3 (show _ ≤ w8.heap.size by omega)); (try have l3e := Nat.le_of_lt l3); (try have l3f := Nat.le_add_right_of_le (k := 1) l3e)
          have HE8 := Lib.hid (show Ext wc w8 from hb)
          have hz8 := hb.size
          obtain ⟨A8, c8, rfl, hle8, hin8⟩ := hO8.inx
          have cv8 := hb.keep hb9 cv9
          have hb8 : b < w8.heap.size := by omega
          have HM8 := Lib.hid hm8
          have HH8 := Lib.hid hh8
          have HI8 := Lib.hid hin8
          have hOw8 := HO9.out.ext HE8.out
          have HO8 := Lib.hid hOw8
          have HOf := Lib.hid (show ∀ g, u3.ownBlock = some g → g < wc.heap.size ∨ w8.heap.size ≤ g from fun g hg => .inl (HO9.out.lt g hg).2)
          clear hb hc hf hz hO8 hm8 hh8 hin8 hOw8 HO9 IH
          have hHas8 : ∀ (j : Nat) p, p8[j]? = some p → (∃ g, p.A = some ⟨g, 0, none⟩) ∧ p.xs.length ≤ p.c := fun j p hp => HH8.out p (List.mem_of_getElem? hp)
          have HHs8 := Lib.hid hHas8
          have hp8l : ∀ p ∈ p8, p.xs.length ≤ 6 := fun p hp => by
            have h1 : p.xs ∈ prm (l.eraseIdx k) := by rw [← HM8.out]; exact List.mem_map.2 ⟨p, hp, rfl⟩
            have h2 := (prm_perm h1).length_eq
            have h3 := HLe.out
            omega
          have hp8n : p8.length ≤ 720 := by
            have h1 := congrArg List.length HM8.out
            rw [List.length_map, prm_len] at h1
            have h3 := HLe.out
            have := fac_le (n := (l.eraseIdx k).length) (by omega)
            omega
          have HP8l := Lib.hid hp8l
          have hpsn : (prmTo l k).length ≤ 720 * k := prmTo_len6 hl6 k (by omega)
          have HE08 := Lib.hid (hE.tr (HE9.out.tr HE8.out))
          have HPL := Lib.hid hpsn
          clear hHas8 hp8l hE cv9 cv8 cv
          go_wp2
          go_loopw [3, 34] (fun v i W => ∃ (j : Nat) (qs : List PR), j ≤ p8.length ∧ i = .int .i64 j ∧ OwnR W w.heap.size v qs ∧ qs.map PR.xs = prmTo l k ++ (p8.take j).map (fun p => x :: p.xs) ∧ HasR qs ∧ InX W (fun b => wc.heap.size ≤ b ∧ b < w8.heap.size) ⟨A8, c8, p8⟩ ∧ (∀ g, v.ownBlock = some g → g < wc.heap.size ∨ w8.heap.size ≤ g) ∧ w8.heap.size ≤ W.heap.size ∧ Ext w W) (fun _ i _ => p8.length - (intOf i).toNat)
          case atStart => exact ⟨0, ps, Nat.zero_le _, rfl, HO8.out, by rw [HPs.out]; simp, HHa.out, HI8.out, HOf.out, Nat.le_refl _, HE08.out⟩
          case round =>
            obtain ⟨j, qs, hj, rfl, hQ, hQm, hQh, hQi, hQo, hQz, hE⟩ := hrel
            have HQ := Lib.hid hQ
            have HQm := Lib.hid hQm
            have HQh := Lib.hid hQh
            have HQi := Lib.hid hQi
            have HQo := Lib.hid hQo
            have HE := Lib.hid hE
            have hEz2 := hE.size
            clear HO8 HI8 HOf hQ hQm hQh hQi hQo
            by_cases hlt2 : j < p8.length
            · obtain ⟨p, hp⟩ : ∃ p, p8[j]? = some p := ⟨p8[j], List.getElem?_eq_getElem hlt2⟩
              obtain ⟨g8, o8, hA8, hS8, hl8, hc8, hI8⟩ := HQi.out j p hp
              obtain ⟨⟨gp, hgp⟩, hpc⟩ := HHs8.out j p hp
              have hp6 := HP8l.out p (List.mem_of_getElem? hp)
              have HTk := Lib.hid (show (p8.take (j + 1)).map (fun p => x :: p.xs) = (p8.take j).map (fun p => x :: p.xs) ++ [x :: p.xs] by rw [List.take_add_one, hp]; simp)
              obtain ⟨pA, pc, pxs⟩ := p
              simp only at hA8 hgp hpc hp6 hI8
              subst hA8
              subst hgp
              simp only [PR.cell] at hc8
              have hgb : wc.heap.size ≤ g8 ∧ g8 < w8.heap.size := hS8
              have hb1 : b < wr.heap.size := by omega
              have hOne : Own1 (wr.alloc (.cells #[.int .i64 x] 3)) wr.heap.size 3 (.slice (some ⟨wr.heap.size, 0, none⟩) 1 1) [x] := Own1.one wr x (Nat.le_refl _)
              have cvx := HE.out.keep hb00 cv0
              have hadp := ints_add hI8
              have hki3 : (k : Int) < l.length := hki
              have hji : (j : Int) < p8.length := by omega
              have hqn : qs.length ≤ 5040 := by
                have h1 := congrArg List.length HQm.out
                have h2 := HPL.out
                rw [List.length_map, List.length_append, List.length_map, List.length_take] at h1
                omega
              have n8 : ∀ W, Ext wr W → ∀ i y, pxs[i]? = some y → W.cell? (Addr.add ⟨gp, 0, none⟩ i) = some (.int .i64 y) := fun W hW i y hi => by
                obtain ⟨b', off', us, e, h1, h2, h3, h4, h5⟩ := hI8 i y hi
                cases e
                exact news_ext hW h2 hadp i y hi
              have HP8j := Lib.hid hp
              clear hS8 hgb hadp hp
              go_wp2_with (at_builtin; go_loud (refine wpList_app1n _ rfl _ _ rfl wr.heap.size _ [x] rfl (hOne.ext (by (repeat' (first | (with_reducible exact Below.refl _ _) | (with_reducible refine Below.mono (by assumption) ?_) | (with_reducible refine Below.trans ?_ (Below.mono (by assumption) ?_)) | (with_reducible refine Below.alloc ?_ ?_ _) | (with_reducible refine Below.drew ?_) | (with_reducible refine below_drewN ?_ _) | (with_reducible refine Below.setCell ?_ ?_ _) | (simp only [World.size_alloc, World.size_setCell, World.size_drew, size_drewN]; omega) | omega)))) (fun b => wc.heap.size ≤ b ∧ b < w8.heap.size) gp 0 pxs.length pc pxs rfl rfl (hI8.ext (by (repeat' (first | (with_reducible exact Below.refl _ _) | (with_reducible refine Below.mono (by assumption) ?_) | (with_reducible refine Below.trans ?_ (Below.mono (by assumption) ?_)) | (with_reducible refine Below.alloc ?_ ?_ _) | (with_reducible refine Below.drew ?_) | (with_reducible refine below_drewN ?_ _) | (with_reducible refine Below.setCell ?_ ?_ _) | (simp only [World.size_alloc, World.size_setCell, World.size_drew, size_drewN]; omega) | omega)))) ?_ ?_ ?_))
              · omega
              · intro v1 w2 hO2 hg2 hat2
                have hE2 : Ext wr w2 := by
                  refine Below.grown ?_ hg2 ?_ (fun g hg => (World.ownsRow.lt hOne g hg).1)
                  · (repeat' (first | (with_reducible exact Below.refl _ _) | (with_reducible refine Below.mono (by assumption) ?_) | (with_reducible refine Below.trans ?_ (Below.mono (by assumption) ?_)) | (with_reducible refine Below.alloc ?_ ?_ _) | (with_reducible refine Below.drew ?_) | (with_reducible refine below_drewN ?_ _) | (with_reducible refine Below.setCell ?_ ?_ _) | (simp only [World.size_alloc, World.size_setCell, World.size_drew, size_drewN]; omega) | omega))
                  · simp only [World.size_alloc, World.size_drew]; omega
                have z2 := hE2.size
                obtain ⟨g1, d1, rfl, hg1, hI1⟩ := own1_some hO2 (by simp)
                have hf1 := own1_frozen hO2
                have hd1 : (x :: pxs).length ≤ d1 := own1_room hO2
                have HNw := Lib.hid (HQ.out.new (c := d1) (by omega) hI1 hf1)
                have HE2 := Lib.hid hE2
                clear hO2 hg2 hat2 hI1 hf1 hE2 n8 hOne hI8
                obtain ⟨q1, hq1⟩ : ∃ q1, (x :: pxs).length = q1 := ⟨_, rfl⟩
                rw [hq1]
                have HQ1 := Lib.hid hq1
                clear hq1
                go_wp2_with (at_builtin; go_loud (refine wpList_appendR_at _ rfl _ _ 41 rfl Try.underlying41 infoRow rfl _ qs rfl (B := w.heap.size) (HQ.out.ext (HE2.out.tr (by (repeat' (first | (with_reducible exact Below.refl _ _) | (with_reducible refine Below.mono (by assumption) ?_) | (with_reducible refine Below.trans ?_ (Below.mono (by assumption) ?_)) | (with_reducible refine Below.alloc ?_ ?_ _) | (with_reducible refine Below.drew ?_) | (with_reducible refine below_drewN ?_ _) | (with_reducible refine Below.setCell ?_ ?_ _) | (simp only [World.size_alloc, World.size_setCell, World.size_drew, size_drewN]; omega) | omega))))) ⟨some ⟨g1, 0, none⟩, d1, x :: pxs⟩ (HNw.out.1.ext (by (repeat' (first | (with_reducible exact Below.refl _ _) | (with_reducible refine Below.mono (by assumption) ?_) | (with_reducible refine Below.trans ?_ (Below.mono (by assumption) ?_)) | (with_reducible refine Below.alloc ?_ ?_ _) | (with_reducible refine Below.drew ?_) | (with_reducible refine below_drewN ?_ _) | (with_reducible refine Below.setCell ?_ ?_ _) | (simp only [World.size_alloc, World.size_setCell, World.size_drew, size_drewN]; omega) | omega)))) HNw.out.2.1 HNw.out.2.2 _ rfl ?_ (by omega) ?_ ?_))
                · unfold PR.cell
                  rw [HQ1.out]
                  first | (simp; done) | exact (litF _ _ _ 0).trans rfl
                · simp only [World.size_alloc]; omega
                · intro v3 w3 hO3 hg3 hat3
                  have HF3 := Lib.hid (step_perm HQ.out HQi.out HQo.out (HE2.out.tr (show Ext w2 (w2.alloc (.cells #[.slice (some ⟨g1, 0, none⟩) q1 d1] 39)) by (repeat' (first | (with_reducible exact Below.refl _ _) | (with_reducible refine Below.mono (by assumption) ?_) | (with_reducible refine Below.trans ?_ (Below.mono (by assumption) ?_)) | (with_reducible refine Below.alloc ?_ ?_ _) | (with_reducible refine Below.drew ?_) | (with_reducible refine below_drewN ?_ _) | (with_reducible refine Below.setCell ?_ ?_ _) | (simp only [World.size_alloc, World.size_setCell, World.size_drew, size_drewN]; omega) | omega)))) hg3 (by rw [World.size_alloc]; exact hat3) HE.out hQz)
                  have HQ3 := Lib.hid hO3
                  clear hO3 hg3 hat3
                  go_wp2
                  go_roundw
                  case measure => simp [intOf]; omega
                  case rel => exact ⟨j + 1, _, by omega, by go_num, HQ3.out, by rw [List.map_append, HQm.out, HTk.out, List.append_assoc]; rfl, HQh.out.app ⟨_, rfl⟩ hd1, HF3.out.1, HF3.out.2.1, HF3.out.2.2.2, HF3.out.2.2.1⟩
            · obtain rfl : j = p8.length := by omega
              have hq2 : List.map PR.xs qs = prmTo l (k + 1) := by
                rw [HQm.out, List.take_length, HPk.out, ← HM8.out, List.map_map]
                rfl
              have HQ2 := Lib.hid hq2
              clear hq2 hE
              go_wp2
              exact ⟨⟨k + 1, qs, by omega, by go_num, HQ.out, HQ2.out, HQh.out, HE.out⟩, by simp [intOf]; omega⟩
      · obtain rfl : k = l.length := by omega
        have HF := Lib.hid (show PermR l w (.returned u3) wr from ⟨_, ps, rfl, HOw.out, HPs.out.trans HPm.out.symm, HHa.out, hE⟩)
        go_wp2
        go_ret
        exact HF.out
end Go.Proofs.Ytdgfipoibnjhaaa
