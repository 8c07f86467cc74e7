/-
  The program's FindSerial.
-/
import Derived.Test.YtdohbmegkkkchaaFndX
import Derived.Test.YtdohbmegkkkchaaDone
import Derived.Laws.EntriesVeiled
namespace Go.Proofs.Ytdohbmegkkkchaa
set_option linter.unusedSimpArgs false
set_option linter.unusedVariables false
set_option maxRecDepth 100000
open Go.RowKit

theorem extR (w : World) : Ext w w := Below.refl _ _
theorem extA {w w' : World} (h : Ext w w') (o : Obj) : Ext w (w'.alloc o) := Below.alloc h h.size o
theorem litX (w : World) (cs : Array Value) (t : TypeId) (i : Nat) : (w.alloc (.cells cs t)).cell? ⟨w.heap.size, i, none⟩ = cs[i]? := by simp [World.cell?_alloc_new]
theorem SlAt.ext_lt {lo : Nat} {w w' : World} {A : Option Addr} {xs : List Int} (h : Ints (fun b => lo ≤ b) w A xs) (hE : Ext w w') : Ints (fun b => b < w.heap.size + 1) w' A xs := Ints.ext (SlAt.mono h (fun b _ hl => Nat.lt_succ_of_lt hl) (fun _ _ h => h)) hE
/-- what a search that has found leaves, in the caller's words -/
def FEndE (w0 : World) (fo ok : Nat) (ys : List Int) (W : World) : Prop := ∃ Ay cy, Blk W fo 24 #[.slice Ay ys.length cy] ∧ ys.length ≤ cy ∧ Ints (fun b => w0.heap.size ≤ b) W Ay ys ∧ (∀ a, Ay = some a → w0.heap.size ≤ a.block ∧ a.block < W.heap.size ∧ ∀ o, W.frozen? ⟨a.block, o, none⟩ = false) ∧ Blk W ok 4 #[.bool true]
set_option maxHeartbeats 4000000 in
theorem each_c (h : List TxnT) (hsm : Small h) (hv : histv h = true) (w0 w : World) (fo ok : Nat) (A : Option Addr) (c : Nat) (hx0 : Txns (fun b => b < w0.heap.size) w0 A h) (hE0 : Ext w0 w) (h1 : w0.heap.size ≤ fo ∧ fo < w.heap.size) (h2 : w0.heap.size ≤ ok ∧ ok < w.heap.size) (h3 : fo ≠ ok)
    (hfo : Blk w fo 24 #[.slice none 0 0]) (hok : Blk w ok 4 #[.bool false]) :
    Calls Try.prog 50 #[.slice A h.length c, (.func (.func 26) #[] #[]), .func (.func 51) #[] #[.pointer (some ⟨fo, 0, none⟩), .pointer (some ⟨ok, 0, none⟩)]] w fun e W => e = .returned (.tuple #[]) ∧ Ext w0 W ∧ ((fndV h = none ∧ Blk W fo 24 #[.slice none 0 0] ∧ Blk W ok 4 #[.bool false]) ∨ ∃ ys, fndV h = some ys ∧ FEndE w0 fo ok ys W) := by
  have CD := fun w hx => done_c h (fun b => b < w0.heap.size) A c w hx hsm
  have hdl := dnT_len h h.length
  have hh6 := histv_len hv
  have hdf : ∀ n, n ∈ dnT h h.length → ∃ (m : Nat) (t : TxnT), n = m ∧ m < h.length ∧ h[m]? = some t ∧ (∀ o ∈ t.ops, opv o = true) ∧ t.ops.length ≤ 6 := fun n hn => by
    obtain ⟨m, t, e, hm, ht, _⟩ := dnT_mem hn
    have h1 := histv_txn hv t (List.mem_of_getElem? ht)
    exact ⟨m, t, e, hm, ht, txnv_opv h1, txnv_len h1⟩
  have hfv : fndV h = fnd h (dnT h h.length) (dnT h h.length).length [] := by unfold fndV; rw [if_pos hv]
  generalize dnT h h.length = D at CD hdl hdf hfv
  have CD := Lib.hid CD
  have HX := Lib.hid hx0
  have HE0 := Lib.hid hE0
  have HDf := Lib.hid hdf
  have HFv := Lib.hid hfv
  have HFo := Lib.hid hfo
  have HOk := Lib.hid hok
  obtain ⟨i0, hi, hz0, hz1, hz2⟩ := info_parts info1
  have hmk : ∀ W, (Instr.makeSlice 24 (.int .i64 0) (.int .i64 D.length)).run Try.prog W = .ok (.slice (some ⟨W.heap.size, 0, none⟩) 0 D.length) (W.alloc (.cells (madeCells (Value.int .i64 0).cells (D.length * 1)) 3)) := fun W => by
    have hm := run_make_rowN (P := Try.prog) 24 3 i0 _ Try.underlying24 hi hz0 .i64 .i64 0 D.length (Nat.zero_le _) (by rw [hz2]; omega) (by omega) W
    rw [hz1] at hm
    exact hm
  have hmf : ∀ (fn : Fn) (first cap : Array Value) (w : World), (Instr.makeFunc fn first cap).run Try.prog w = .ok (.func fn first cap) w := fun _ _ _ _ => rfl
  clear hx0 hE0 hdf hfv hfo hok hi hz0 hz1 hz2
  go_enter Try.func50, Try.ntmps50
  go_wp2_with (fail)
  go_at_call 66
  refine (CD.out _ (HX.out.ext (HE0.out.tr (by (repeat' (first | (with_reducible exact Below.refl _ _) | (with_reducible refine Below.mono (by assumption) ?_) | (with_reducible refine Below.trans ?_ (Below.mono (by assumption) ?_)) | (with_reducible refine Below.alloc ?_ ?_ _) | (with_reducible refine Below.drew ?_) | (with_reducible refine below_drewN ?_ _) | (with_reducible refine Below.setCell ?_ ?_ _) | (simp only [World.size_alloc, World.size_setCell, World.size_drew, size_drewN]; omega) | omega)))))).mono ?_
  rintro e w3 ⟨A3, c3, rfl, hD, hfD, hb⟩
  obtain ⟨hc, hf, hz, hs⟩ := bcell hb
  (try simp only [World.size_alloc, World.size_setCell, World.size_drew, size_drewN] at hs); (first | have l0 := Nat.lt_of_lt_of_le l0 (show _ ≤ w3.heap.size by omega) | have l0 : w.heap.size < w3.heap.size := (by omega) | skip); (try have l0e := Nat.le_of_lt l0); (try have l0f := Nat.le_add_right_of_le (k := 1) l0e); (try have l1 := Nat.lt_of_lt_of_le l1 (show _ ≤ w3.heap.size by omega)); (try have l1e := Nat.le_of_lt l1); (try have l1f := Nat.le_add_right_of_le (k := 1) l1e); (try have l2 := Nat.lt_of_lt_of_le l2 (show _ ≤ w3.heap.size by omega)); (try have l2e := Nat.le_of_lt l2); (try have l2f := Nat.le_add_right_of_le (k := 1) l2e); (try have l3 := Nat.lt_of_lt_of_le l3 (show _ ≤ w3.heap.size by omega)); (try have l3e := Nat.le_of_lt l3); (try have l3f := Nat.le_add_right_of_le (k := 1) l3e)
  have hbc := hb
  clear hb hc hf hz
  have hz3 : w.heap.size + 3 ≤ w3.heap.size := by have := hbc.size; simp only [World.size_alloc] at this; omega
  have x1 := hbc.keep (by simp only [World.size_alloc]; omega) ((show Ext (w.alloc (.cells #[.slice A h.length c] 27)) (((w.alloc (.cells #[.slice A h.length c] 27)).alloc (.cells #[(.func (.func 26) #[] #[])] 50)).alloc (.cells #[.func (.func 51) #[] #[.pointer (some ⟨fo, 0, none⟩), .pointer (some ⟨ok, 0, none⟩)]] 75)) from by (repeat' (first | (with_reducible exact Below.refl _ _) | (with_reducible refine Below.mono (by assumption) ?_) | (with_reducible refine Below.trans ?_ (Below.mono (by assumption) ?_)) | (with_reducible refine Below.alloc ?_ ?_ _) | (with_reducible refine Below.drew ?_) | (with_reducible refine below_drewN ?_ _) | (with_reducible refine Below.setCell ?_ ?_ _) | (simp only [World.size_alloc, World.size_setCell, World.size_drew, size_drewN]; omega) | omega))).keep (by simp) ((litX w #[.slice A h.length c] 27 0).trans rfl))
  have x2 := hbc.keep (by simp only [World.size_alloc]; omega) ((show Ext ((w.alloc (.cells #[.slice A h.length c] 27)).alloc (.cells #[(.func (.func 26) #[] #[])] 50)) (((w.alloc (.cells #[.slice A h.length c] 27)).alloc (.cells #[(.func (.func 26) #[] #[])] 50)).alloc (.cells #[.func (.func 51) #[] #[.pointer (some ⟨fo, 0, none⟩), .pointer (some ⟨ok, 0, none⟩)]] 75)) from by (repeat' (first | (with_reducible exact Below.refl _ _) | (with_reducible refine Below.mono (by assumption) ?_) | (with_reducible refine Below.trans ?_ (Below.mono (by assumption) ?_)) | (with_reducible refine Below.alloc ?_ ?_ _) | (with_reducible refine Below.drew ?_) | (with_reducible refine below_drewN ?_ _) | (with_reducible refine Below.setCell ?_ ?_ _) | (simp only [World.size_alloc, World.size_setCell, World.size_drew, size_drewN]; omega) | omega))).keep (by simp) ((litX (w.alloc (.cells #[.slice A h.length c] 27)) #[(.func (.func 26) #[] #[])] 50 0).trans rfl))
  have x3 := hbc.keep (by simp only [World.size_alloc]; omega) ((litX ((w.alloc (.cells #[.slice A h.length c] 27)).alloc (.cells #[(.func (.func 26) #[] #[])] 50)) #[.func (.func 51) #[] #[.pointer (some ⟨fo, 0, none⟩), .pointer (some ⟨ok, 0, none⟩)]] 75 0).trans rfl)
  simp only [World.size_alloc] at x1 x2 x3
  have hE3 : Ext w w3 := by (repeat' (first | (with_reducible exact Below.refl _ _) | (with_reducible refine Below.mono (by assumption) ?_) | (with_reducible refine Below.trans ?_ (Below.mono (by assumption) ?_)) | (with_reducible refine Below.alloc ?_ ?_ _) | (with_reducible refine Below.drew ?_) | (with_reducible refine below_drewN ?_ _) | (with_reducible refine Below.setCell ?_ ?_ _) | (simp only [World.size_alloc, World.size_setCell, World.size_drew, size_drewN]; omega) | omega))
  obtain ⟨B, hBdef⟩ : ∃ B : FB, B = ⟨w0.heap.size, w3.heap.size + 1, w.heap.size, w3.heap.size, w.heap.size + 1 + 1, w.heap.size + 1, w3.heap.size + 1 + 1 + 1, w3.heap.size + 1 + 1, fo, ok⟩ := ⟨_, rfl⟩
  have hB : B.ok := by
    have := HE0.out.size
    subst hBdef
    refine ⟨?_, ?_, ?_, ?_, ?_, ?_, ?_, ?_, ?_⟩ <;> simp only <;> omega
  have hst : ∀ W5, W5 = ((((w3.alloc (.cells #[.slice A3 D.length c3] 24)).alloc (.cells (madeCells #[.int .i64 0] D.length) 3)).alloc (.cells #[.slice (some ⟨w3.heap.size + 1, 0, none⟩) 0 D.length] 24)).alloc (.cells #[.func (.func 67) #[] #[.pointer (some ⟨w3.heap.size + 1 + 1, 0, none⟩), .pointer (some ⟨w3.heap.size, 0, none⟩), .pointer (some ⟨w.heap.size + 1 + 1, 0, none⟩), .pointer (some ⟨w.heap.size + 1, 0, none⟩), .pointer (some ⟨w.heap.size, 0, none⟩), .pointer (some ⟨w3.heap.size + 1 + 1 + 1, 0, none⟩)]] 92)) →
      FSt w0 B A h.length c A3 D c3 (.func (.func 51) #[] #[.pointer (some ⟨B.bfo, 0, none⟩), .pointer (some ⟨B.bok, 0, none⟩)]) (.func (.func 26) #[] #[]) (.func (.func 67) #[] #[.pointer (some ⟨B.bo, 0, none⟩), .pointer (some ⟨B.ba, 0, none⟩), .pointer (some ⟨B.bc, 0, none⟩), .pointer (some ⟨B.bl, 0, none⟩), .pointer (some ⟨B.bh, 0, none⟩), .pointer (some ⟨B.bf, 0, none⟩)]) (.slice (some ⟨w3.heap.size + 1, 0, none⟩) 0 D.length) [] W5 := by
    intro W5 hW5
    subst hBdef
    have hEw : Ext w3 W5 := by
      rw [hW5]
      exact extA (extA (extA (extA (extR _) _) _) _) _
    have hsz : W5.heap.size = w3.heap.size + 4 := by subst hW5; simp
    refine ⟨HE0.out.tr (hE3.tr hEw), Nat.le_refl _, hEw.keep (by simp only; omega) x1, ?_, hEw.keep (by simp only; omega) x3, hEw.keep (by simp only; omega) x2, ?_, by simp only; omega, ?_, ?_, by simp [Value.ownBlock], by simp [Value.ownBlock], HFo.out.ext (hE3.tr hEw), HOk.out.ext (hE3.tr hEw), SlAt.ext_lt hD hEw, by simp only; omega⟩
    · subst hW5
      exact (show Ext (w3.alloc (.cells #[.slice A3 D.length c3] 24)) _ from extA (extA (extA (extR _) _) _) _).keep (by simp) ((litX w3 #[.slice A3 D.length c3] 24 0).trans rfl)
    · subst hW5
      have := litX (((w3.alloc (.cells #[.slice A3 D.length c3] 24)).alloc (.cells (madeCells #[.int .i64 0] D.length) 3)).alloc (.cells #[.slice (some ⟨w3.heap.size + 1, 0, none⟩) 0 D.length] 24)) #[.func (.func 67) #[] #[.pointer (some ⟨w3.heap.size + 1 + 1, 0, none⟩), .pointer (some ⟨w3.heap.size, 0, none⟩), .pointer (some ⟨w.heap.size + 1 + 1, 0, none⟩), .pointer (some ⟨w.heap.size + 1, 0, none⟩), .pointer (some ⟨w.heap.size, 0, none⟩), .pointer (some ⟨w3.heap.size + 1 + 1 + 1, 0, none⟩)]] 92 0
      simp only [World.size_alloc] at this
      exact this.trans rfl
    · subst hW5
      have := Blk.new ((w3.alloc (.cells #[.slice A3 D.length c3] 24)).alloc (.cells (madeCells #[.int .i64 0] D.length) 3)) 24 #[.slice (some ⟨w3.heap.size + 1, 0, none⟩) 0 D.length]
      simp only [World.size_alloc] at this
      exact Blk.ext this (extA (extR _) _)
    · subst hW5
      have := Own1.made (e := 3) (w3.alloc (.cells #[.slice A3 D.length c3] 24)) (g := w3.heap.size + 1) (base := w3.heap.size + 1) (madeCells #[.int .i64 0] D.length) D.length (by simp) (by simp) (by omega) (by simp [madeCells])
      exact Own1.ext this (extA (extA (extR _) _) _)
  have CF := fun W s => from_c h hsm hh6 D (by omega) HDf.out w0 B hB A c A3 c3 HX.out D.length [] (fun _ => 0) 0 (.slice (some ⟨w3.heap.size + 1, 0, none⟩) 0 D.length) W (by simp) rfl (by omega) (by simp) ⟨_, rfl⟩ s
  have CF := fun W e => CF W (hst W e)
  have hsl : w3.heap.size + 4 ≤ (((((w3.alloc (.cells #[.slice A3 D.length c3] 24)).alloc (.cells (madeCells #[.int .i64 0] D.length) 3)).alloc (.cells #[.slice (some ⟨w3.heap.size + 1, 0, none⟩) 0 D.length] 24)).alloc (.cells #[.func (.func 67) #[] #[.pointer (some ⟨w3.heap.size + 1 + 1, 0, none⟩), .pointer (some ⟨w3.heap.size, 0, none⟩), .pointer (some ⟨w.heap.size + 1 + 1, 0, none⟩), .pointer (some ⟨w.heap.size + 1, 0, none⟩), .pointer (some ⟨w.heap.size, 0, none⟩), .pointer (some ⟨w3.heap.size + 1 + 1 + 1, 0, none⟩)]] 92)).heap.size) := by simp
  have hbd0 : w0.heap.size ≤ B.b0 := by have := HE0.out.size; subst hBdef; simp only; omega
  subst hBdef
  have CF := Lib.hid CF
  clear hst hD hfD hbc x1 x2 x3 hB
  go_wp2_with (fail)
  go_at_call 67
  refine (CF.out _ rfl).mono ?_
  rintro e W9 ⟨b, rfl, hbt, hbf⟩
  have HT := Lib.hid hbt
  have HF := Lib.hid hbf
  clear hbt hbf
  go_wp2_with (fail)
  go_end0
  refine ⟨rfl, ?_⟩
  rw [HFv.out]
  cases b with
  | true =>
    obtain ⟨h5, v', _, s5, _⟩ := HT.out rfl
    exact ⟨s5.ext, .inl ⟨h5, s5.fo, s5.ok⟩⟩
  | false =>
    obtain ⟨ys, h5, h6, Ay, cy, h7, h8, h9, h10, h11⟩ := HF.out rfl
    refine ⟨h6, .inr ⟨ys, h5, Ay, cy, h7, h8, SlAt.mono h9 (fun b hl _ => Nat.le_trans hbd0 hl) (fun _ _ h => h), fun a ha => ⟨Nat.le_trans hbd0 (h10 a ha).1, (h10 a ha).2⟩, h11⟩⟩
end Go.Proofs.Ytdohbmegkkkchaa
