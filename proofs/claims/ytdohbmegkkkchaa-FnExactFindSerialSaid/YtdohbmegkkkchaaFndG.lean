/-
  The program's FindSerial.
-/
import Derived.Test.YtdohbmegkkkchaaFndF
import Derived.Deep.QuietTactic
import Derived.BigQuiet
namespace Go.Proofs.Ytdohbmegkkkchaa
set_option linter.unusedSimpArgs false
set_option linter.unusedVariables false
set_option maxRecDepth 100000
open Go.RowKit

/-- a list of the call's own, and whether there is one -/
def FreshB (r : Option (List Int)) (w : World) (e : Ending) (w' : World) : Prop :=
  ∃ A c, e = .returned (.tuple #[.slice A (r.getD []).length c, .bool r.isSome]) ∧ Ints (fun b => w.heap.size ≤ b) w' A (r.getD []) ∧ (∀ a, A = some a → w.heap.size ≤ a.block ∧ a.block < w'.heap.size ∧ ∀ o, w'.frozen? ⟨a.block, o, none⟩ = false) ∧ Ext w w'
theorem clipF_c (A : Option Addr) (n c : Nat) (w : World) (h : n ≤ c) : Calls Try.prog 36 #[.slice A n c] w fun e w' => e = .returned (.slice A n n) ∧ w' = w := by
  go_enter Try.func36, Try.ntmps36
  go_wp2
  go_ret
  exact ⟨rfl, rfl⟩
set_option maxHeartbeats 4000000 in
theorem firstSerial_c (h : List TxnT) (hsm : Small h) (hv : histv h = true) (w : World) (A : Option Addr) (c : Nat) (hx : Txns (fun b => b < w.heap.size) w A h) :
    Calls Try.prog 25 #[.slice A h.length c, .func (.func 26) #[] #[]] w (FreshB (fndV h) w) := by
  have hmf : ∀ (fn : Fn) (first cap : Array Value) (w : World), (Instr.makeFunc fn first cap).run Try.prog w = .ok (.func fn first cap) w := fun _ _ _ _ => rfl
  have HE : Ext w ((w.alloc (.cells #[.slice none 0 0] 24)).alloc (.cells #[.bool false] 4)) := extA (extA (extR _) _) _
  have hb1 : Blk ((w.alloc (.cells #[.slice none 0 0] 24)).alloc (.cells #[.bool false] 4)) w.heap.size 24 #[.slice none 0 0] := (Blk.new w 24 #[.slice none 0 0]).ext (extA (extR _) _)
  have hb2 : Blk ((w.alloc (.cells #[.slice none 0 0] 24)).alloc (.cells #[.bool false] 4)) (w.heap.size + 1) 4 #[.bool false] := by
    have := Blk.new (w.alloc (.cells #[.slice none 0 0] 24)) 4 #[.bool false]
    rw [World.size_alloc] at this
    exact this
  have hsz : ((w.alloc (.cells #[.slice none 0 0] 24)).alloc (.cells #[.bool false] 4)).heap.size = w.heap.size + 2 := by simp
  have CE := each_c h hsm hv w _ w.heap.size (w.heap.size + 1) A c hx HE ⟨Nat.le_refl _, by omega⟩ ⟨by omega, by omega⟩ (by omega) hb1 hb2
  have CE := Lib.hid CE
  clear HE hb1 hb2 hsz hx
  go_enter Try.func25, Try.ntmps25
  go_wp2_with (fail)
  go_at_call 50
  refine CE.out.mono ?_
  rintro e W ⟨rfl, hE, hr⟩
  have HEx := Lib.hid hE
  rcases hr with ⟨hf, b1, b2⟩ | ⟨ys, hf, Ay, cy, b1, hle, hI, hfr, b2⟩
  · have k1 := (b1.cell 0).trans (show (#[.slice none 0 0] : Array Value)[0]? = some (.slice none 0 0) from rfl)
    have k2 := (b2.cell 0).trans (show (#[.bool false] : Array Value)[0]? = some (.bool false) from rfl)
    clear b1 b2 hE
    go_wp2_with (fail)
    go_quiet ((go_at_call 36; exact Calls.quiet_of_same (clipF_c _ _ _ _ (Nat.le_refl _))))
    go_wp2
    go_ret2
    rw [hf]
    exact ⟨none, 0, rfl, SlAt.nil, (fun a ha => by cases ha), below_drewN HEx.out _⟩
  · have k1 := (b1.cell 0).trans (show (#[.slice Ay ys.length cy] : Array Value)[0]? = some (.slice Ay ys.length cy) from rfl)
    have k2 := (b2.cell 0).trans (show (#[.bool true] : Array Value)[0]? = some (.bool true) from rfl)
    have HI := Lib.hid hI
    have HFr := Lib.hid hfr
    clear b1 b2 hE hI hfr
    go_wp2_with (fail)
    go_quiet ((go_at_call 36; exact Calls.quiet_of_same (clipF_c _ _ _ _ hle)))
    go_wp2
    go_ret2
    rw [hf]
    exact ⟨Ay, ys.length, rfl, HI.out, HFr.out, below_drewN HEx.out _⟩
set_option maxHeartbeats 4000000 in
theorem implFindSerial_c (h : List TxnT) (w : World) (A : Option Addr) (c : Nat) (hx : Txns (fun b => b < w.heap.size) w A h) (hsm : Small h) :
    Calls Try.prog 8 #[.slice A h.length c] w (FreshB (fndV h) w) := by
  have C := fun w1 hx => implHistoryValid_c h (fun b => b < w.heap.size) A c w1 hx hsm
  cases hv : histv h with
  | false =>
    rw [hv] at C
    have C := Lib.hid C
    have hfv : fndV h = none := by unfold fndV; rw [hv]; rfl
    go_enter Try.func8, Try.ntmps8
    go_wp2_with (fail)
    go_at_call 24
    refine (C.out _ hx).mono ?_
    rintro e w2 ⟨rfl, hb⟩
    obtain ⟨hc, hf, hz, hs⟩ := bcell hb
    (try simp only [World.size_alloc, World.size_setCell, World.size_drew, size_drewN] at hs); (first | have l0 := Nat.lt_of_lt_of_le l0 (show _ ≤ w2.heap.size by omega) | have l0 : w.heap.size < w2.heap.size := (by omega) | skip); (try have l0e := Nat.le_of_lt l0); (try have l0f := Nat.le_add_right_of_le (k := 1) l0e); (try have l1 := Nat.lt_of_lt_of_le l1 (show _ ≤ w2.heap.size by omega)); (try have l1e := Nat.le_of_lt l1); (try have l1f := Nat.le_add_right_of_le (k := 1) l1e); (try have l2 := Nat.lt_of_lt_of_le l2 (show _ ≤ w2.heap.size by omega)); (try have l2e := Nat.le_of_lt l2); (try have l2f := Nat.le_add_right_of_le (k := 1) l2e); (try have l3 := Nat.lt_of_lt_of_le l3 (show _ ≤ w2.heap.size by omega)); (try have l3e := Nat.le_of_lt l3); (try have l3f := Nat.le_add_right_of_le (k := 1) l3e)
    go_wp2
    go_ret2
    rw [hfv]
    exact ⟨none, 0, rfl, SlAt.nil, (fun a ha => by cases ha), by (repeat' (first | (with_reducible exact Below.refl _ _) | (with_reducible refine Below.mono (by assumption) ?_) | (with_reducible refine Below.trans ?_ (Below.mono (by assumption) ?_)) | (with_reducible refine Below.alloc ?_ ?_ _) | (with_reducible refine Below.drew ?_) | (with_reducible refine below_drewN ?_ _) | (with_reducible refine Below.setCell ?_ ?_ _) | (simp only [World.size_alloc, World.size_setCell, World.size_drew, size_drewN]; omega) | omega))⟩
  | true =>
    rw [hv] at C
    have C := Lib.hid C
    have HX := Lib.hid hx
    clear hx
    go_enter Try.func8, Try.ntmps8
    go_wp2_with (fail)
    go_at_call 24
    refine (C.out _ HX.out).mono ?_
    rintro e w2 ⟨rfl, hb⟩
    obtain ⟨hc, hf, hz, hs⟩ := bcell hb
    (try simp only [World.size_alloc, World.size_setCell, World.size_drew, size_drewN] at hs); (first | have l0 := Nat.lt_of_lt_of_le l0 (show _ ≤ w2.heap.size by omega) | have l0 : w.heap.size < w2.heap.size := (by omega) | skip); (try have l0e := Nat.le_of_lt l0); (try have l0f := Nat.le_add_right_of_le (k := 1) l0e); (try have l1 := Nat.lt_of_lt_of_le l1 (show _ ≤ w2.heap.size by omega)); (try have l1e := Nat.le_of_lt l1); (try have l1f := Nat.le_add_right_of_le (k := 1) l1e); (try have l2 := Nat.lt_of_lt_of_le l2 (show _ ≤ w2.heap.size by omega)); (try have l2e := Nat.le_of_lt l2); (try have l2f := Nat.le_add_right_of_le (k := 1) l2e); (try have l3 := Nat.lt_of_lt_of_le l3 (show _ ≤ w2.heap.size by omega)); (try have l3e := Nat.le_of_lt l3); (try have l3f := Nat.le_add_right_of_le (k := 1) l3e)
    have hE2 : Ext w w2 := by (repeat' (first | (with_reducible exact Below.refl _ _) | (with_reducible refine Below.mono (by assumption) ?_) | (with_reducible refine Below.trans ?_ (Below.mono (by assumption) ?_)) | (with_reducible refine Below.alloc ?_ ?_ _) | (with_reducible refine Below.drew ?_) | (with_reducible refine below_drewN ?_ _) | (with_reducible refine Below.setCell ?_ ?_ _) | (simp only [World.size_alloc, World.size_setCell, World.size_drew, size_drewN]; omega) | omega))
    have hx2 : Txns (fun b => b < w2.heap.size) w2 A h := SlAt.mono (HX.out.ext hE2) (fun b hl _ => Nat.lt_of_lt_of_le hl hE2.size) (mono_txn (fun b hl _ => Nat.lt_of_lt_of_le hl hE2.size))
    have CF := firstSerial_c h hsm hv w2 A c hx2
    have CF := Lib.hid CF
    have HE2 := Lib.hid hE2
    clear hx2 hE2
    go_wp2_with (fail)
    go_at_call 25
    refine CF.out.mono ?_
    rintro e w3 ⟨A3, c3, rfl, hI, hfr, hE3⟩
    have HI := Lib.hid hI
    have HFr := Lib.hid hfr
    have HE3 := Lib.hid hE3
    clear hI hfr hE3
    go_wp2
    go_ret2
    have hs := HE2.out.size
    exact ⟨A3, c3, rfl, SlAt.mono HI.out (fun b hl _ => Nat.le_trans hs hl) (fun _ _ h => h), fun a ha => ⟨Nat.le_trans hs (HFr.out a ha).1, (HFr.out a ha).2⟩, HE2.out.tr HE3.out⟩
end Go.Proofs.Ytdohbmegkkkchaa
