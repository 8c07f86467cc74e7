/-
  Rows of numbers of one's own, marked: what lies behind them stays.
-/
import Derived.Test.YtdohbmegkkkchaaGreatLst
namespace Go.Proofs.YtdohbmegkkkchaaGreat
set_option linter.unusedSimpArgs false
set_option linter.unusedVariables false
set_option maxRecDepth 100000
open Go.RowKit

set_option maxHeartbeats 2000000 in
theorem markIntSS_hi (hi9 : Nat) (xs : List (List Int)) (lo : Nat) (A : Option Addr) (c : Nat) (f : Nat → Option Addr) (q : Int) (w : World) (hR : RI2 lo w A xs f) (hs : SmallR xs) (h0 : 0 ≤ q) (h1 : q ≤ 1000000000) (hup : ∀ i a, i < xs.length → f i = some a → a.block < hi9) :
    Calls Tryz.prog 17 #[.slice A xs.length c, .int .i64 q] w fun e w' => e = .returned (.int .i64 (q + (tot xs : Nat))) ∧ (q = 1 → HI2 w' A xs) ∧ Within lo hi9 w w' := by
  have hn := hs.len
  have HS := Lib.hid hs
  have hR0 : RunI lo w A xs f q 0 := ⟨fun i x hx => by
    obtain ⟨g, off, cap, e, _, h1, h2, h3, h4⟩ := hR.row i x hx
    exact ⟨g, off, cap, e, h1, h2, by rw [if_neg (by omega)]; exact h3, h4⟩, hR.apart⟩
  have HR0 := Lib.hid hR0
  clear hR hR0 hs
  go_enter Tryz.func17, Tryz.ntmps17
  go_wp2
  go_loopw [1, 5] (fun v i wr => ∃ k : Nat, k ≤ xs.length ∧ i = .int .i64 k ∧ v = .int .i64 (q + (tot (xs.take k) : Nat)) ∧ RunI lo wr A xs f q k ∧ Within lo hi9 w wr ∧ w.heap.size ≤ wr.heap.size) (fun _ i _ => xs.length - (intOf i).toNat)
  case atStart => exact ⟨0, Nat.zero_le _, rfl, by simp [tot], HR0.out, Within.refl _ _ _, Nat.le_refl _⟩
  case round =>
    obtain ⟨k, hk, rfl, rfl, hU, hW, hz⟩ := hrel
    clear HR0
    have HU := Lib.hid hU
    have HW := Lib.hid hW
    by_cases hlt : k < xs.length
    · have hxk : xs[k]? = some xs[k] := List.getElem?_eq_getElem hlt
      generalize xs[k] = x at hxk
      obtain ⟨g, off, cap, rfl, g1, g2, g3, g4⟩ := hU.row k x hxk
      rw [if_neg (by omega)] at g3
      have hxl := HS.out.row hxk
      have htk := tot_take hxk
      have htl := tot_le xs (k + 1)
      have hsm := HS.out
      unfold SmallR at hsm
      have HX := Lib.hid hxk
      have HT := Lib.hid htk
      have HG3 := Lib.hid g3
      have HG4 := Lib.hid g4
      have hq3 : q + (tot (xs.take k) : Nat) ≤ 1073741824 := by omega
      have hq0 : 0 ≤ q + (tot (xs.take k) : Nat) := by omega
      clear hxk htk hsm g3 g4 hU hW
      go_wp2_with (fail)
      go_at_call 46
      refine (markIntS_c x _ _ _ _ _ HG3.out (fun a ha => (HG4.out a ha).2.2.1) hxl hq0 hq3).mono ?_
      rintro e w2 ⟨rfl, hA, hg, hf⟩
      have hst := HU.out.step HX.out hA hg hf
      have HST := Lib.hid hst
      have hwi : Within lo hi9 w w2 := by
        refine ⟨hg.os.trans HW.out.os, hg.tape.trans HW.out.tape, hg.output.trans HW.out.output, Nat.le_trans HW.out.size hg.size, fun j hj hn => ?_⟩
        have hj2 := Nat.lt_of_lt_of_le hj hz
        rw [hg.block j hj2 (fun he => ?_)]
        · exact HW.out.block j hj hn
        · cases hfk : f k with
          | none => rw [hfk] at he; cases he
          | some a =>
            rw [hfk] at he
            obtain rfl : j = a.block := by simpa [rowOf] using he
            have := (HG4.out a hfk).1
            have := hup k a hlt hfk
            omega
      have HWi := Lib.hid hwi
      have hz2 := hg.size
      clear hA hg hf hst hwi
      go_wp2
      refine ⟨⟨k + 1, by omega, by go_num, ?_, HST.out, HWi.out, by omega⟩, by simp [intOf]; omega⟩
      rw [HT.out]
      go_num
    · obtain rfl : k = xs.length := by omega
      rw [List.take_length]
      clear hU hW
      go_wp2
      go_ret
      refine ⟨rfl, fun hq => ?_, HW.out⟩
      subst hq
      intro i x hx
      have hi : i < xs.length := (List.getElem?_eq_some_iff.1 hx).1
      obtain ⟨g, off, cap, e, g1, g2, g3, g4⟩ := HU.out.row i x hx
      rw [if_pos hi] at g3
      exact ⟨g, off, _, cap, e, g1, g2, SlAt.mono g3 (fun _ _ _ => trivial) (fun _ _ h => h)⟩
theorem RI2.up {lo : Nat} {w : World} {A : Option Addr} {xs : List (List Int)} {f : Nat → Option Addr} (h : RI2 lo w A xs f) : ∀ i a, i < xs.length → f i = some a → a.block < w.heap.size := by
  intro i a hi ha
  obtain ⟨_, _, _, _, _, _, _, _, h4⟩ := h.row i _ (List.getElem?_eq_getElem hi)
  exact (h4 a ha).2.1
end Go.Proofs.YtdohbmegkkkchaaGreat
