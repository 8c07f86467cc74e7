/-
  The closure of the program's EdgesOf: one more edge, where its ends are committed and differ.
-/
import Derived.Test.YtdohbmegkkkchaaGreatEdS
namespace Go.Proofs.YtdohbmegkkkchaaGreat
set_option linter.unusedSimpArgs false
set_option linter.unusedVariables false
set_option maxRecDepth 100000
open Go.RowKit

/-- what one more edge leaves as it was -/
structure PutR (Bl : Nat) (v v' : Value) (w w' : World) : Prop where
  os : w'.os = w.os
  tape : w'.tape = w.tape
  output : w'.output = w.output
  size : w.heap.size ≤ w'.heap.size
  keep : ∀ b, b < w.heap.size → b ≠ Bl → some b ≠ v.ownBlock → w'.heap[b]? = w.heap[b]?
  own : v'.ownBlock = v.ownBlock ∨ ∃ n, v'.ownBlock = some n ∧ w.heap.size ≤ n
theorem PutR.refl (Bl : Nat) (v : Value) (w : World) : PutR Bl v v w w := ⟨rfl, rfl, rfl, Nat.le_refl _, fun _ _ _ _ => rfl, .inl rfl⟩
theorem PutR.cell {Bl : Nat} {v v' : Value} {w w' : World} (h : PutR Bl v v' w w') {p : Addr} (h1 : p.block < w.heap.size) (h2 : p.block ≠ Bl) (h3 : some p.block ≠ v.ownBlock) : w'.cell? p = w.cell? p := World.cell?_of_block (h.keep _ h1 h2 h3)
theorem PutR.frozen {Bl : Nat} {v v' : Value} {w w' : World} (h : PutR Bl v v' w w') {p : Addr} (h1 : p.block < w.heap.size) (h2 : p.block ≠ Bl) (h3 : some p.block ≠ v.ownBlock) : w'.frozen? p = w.frozen? p := by simp only [World.frozen?, h.keep _ h1 h2 h3]
theorem PutR.ints {Bl : Nat} {v v' : Value} {w w' : World} (h : PutR Bl v v' w w') {S : Nat → Prop} {A : Option Addr} {xs : List Int} (hx : Ints S w A xs) (hS : ∀ b, S b → b < w.heap.size → b ≠ Bl ∧ some b ≠ v.ownBlock) : Ints S w' A xs :=
  SlAt.keep hx (kept_int _ _) h.size (fun p hp hl => h.cell hl (hS _ hp hl).1 (hS _ hp hl).2)
theorem PutR.ops {Bl : Nat} {v v' : Value} {w w' : World} (h : PutR Bl v v' w w') {S : Nat → Prop} {A : Option Addr} {xs : List T3} (hx : Ops S w A xs) (hS : ∀ b, S b → b < w.heap.size → b ≠ Bl ∧ some b ≠ v.ownBlock) : Ops S w' A xs :=
  SlAt.keep hx (kept_3 _ _) h.size (fun p hp hl => h.cell hl (hS _ hp hl).1 (hS _ hp hl).2)
theorem PutR.below {Bl base : Nat} {v v' : Value} {w0 w w' : World} (h : PutR Bl v v' w w') (hE : Below base w0 w) (hb : base ≤ w.heap.size) (hl : base ≤ Bl) (hv : ∀ g, v.ownBlock = some g → base ≤ g) : Below base w0 w' :=
  ⟨h.os.trans hE.os, h.tape.trans hE.tape, h.output.trans hE.output, Nat.le_trans hE.size h.size, fun k hk => (h.keep k (Nat.lt_of_lt_of_le hk hb) (by omega) (fun e => by have := hv k e.symm; omega)).trans (hE.block k hk)⟩
theorem PutR.some_ {Bl : Nat} {v v' : Value} {w w' : World} (h : PutR Bl v v' w w') (hv : ∃ g, v.ownBlock = some g) : ∃ g, v'.ownBlock = some g := by
  rcases h.own with e | ⟨n, e, _⟩
  · rw [e]; exact hv
  · exact ⟨n, e⟩
theorem PutR.off {Bl lo hi : Nat} {v v' : Value} {w w' : World} (h : PutR Bl v v' w w') (ho : Off v lo hi) (hh : hi ≤ w.heap.size) : Off v' lo hi := by
  rcases h.own with e | ⟨n, e, hn⟩
  · intro g hg; exact ho g (e ▸ hg)
  · intro g hg
    rw [e] at hg
    cases hg
    exact .inr (by omega)

/-- one more edge -/
abbrev PutQ (base Bl : Nat) (v : Value) (L : List T3) (w : World) (e : Ending) (w' : World) : Prop :=
  ∃ v', e = .returned (.tuple #[]) ∧ Blk w' Bl 26 #[v'] ∧ Own3 w' base 51 v' L ∧ PutR Bl v v' w w'
set_option maxHeartbeats 4000000 in
theorem put_c (h : List TxnT) (f t k : Int) (Bh Bl base : Nat) (A : Option Addr) (c : Nat) (S : Nat → Prop) (v : Value) (L : List T3) (w : World) (hx : Txns S w A h) (hh : w.cell? ⟨Bh, 0, none⟩ = some (.slice A h.length c)) (hhl : Bh < w.heap.size) (hv : Blk w Bl 26 #[v]) (hO : Own3 w base 51 v L)
    (hne : some Bl ≠ v.ownBlock) (hbl : base ≤ Bl) (hn : L.length ≤ 1048576) (hf : f < h.length) (ht : t < h.length) :
    Calls Tryz.prog 36 #[.int .i64 f, .int .i64 t, .int .i64 k, .pointer (some ⟨Bh, 0, none⟩), .pointer (some ⟨Bl, 0, none⟩)] w (PutQ base Bl v (L ++ putV h f t k) w) := by
  have hBl := hv.lt
  have stay : putV h f t k = [] → PutQ base Bl v (L ++ putV h f t k) w (.returned (.tuple #[])) w := fun e => by
    rw [e, List.append_nil]
    exact ⟨v, rfl, hv, hO, PutR.refl _ _ _⟩
  by_cases hf0 : f < 0
  · have e : putV h f t k = [] := by simp [putV, dnB_neg hf0]
    have HS := Lib.hid (stay e)
    have h1 : ¬ (0 ≤ f) := by omega
    clear stay e
    go_enter Tryz.func36, Tryz.ntmps36
    go_wp2
    go_end0
    exact HS.out
  by_cases ht0 : t < 0
  · have e : putV h f t k = [] := by simp [putV, dnB_neg ht0]
    have HS := Lib.hid (stay e)
    have h1 : ¬ (0 ≤ t) := by omega
    have h2 : 0 ≤ f := by omega
    clear stay e
    go_enter Tryz.func36, Tryz.ntmps36
    go_wp2
    go_end0
    exact HS.out
  by_cases hft : f = t
  · subst hft
    have e : putV h f f k = [] := by simp [putV]
    have HS := Lib.hid (stay e)
    have h1 : 0 ≤ f := by omega
    have h3 : (f != f) = false := by simp
    clear stay e
    go_enter Tryz.func36, Tryz.ntmps36
    go_wp2
    go_end0
    exact HS.out
  obtain ⟨f, rfl⟩ := Int.eq_ofNat_of_zero_le (show 0 ≤ f by omega)
  obtain ⟨t, rfl⟩ := Int.eq_ofNat_of_zero_le (show 0 ≤ t by omega)
  have hfl : f < h.length := by omega
  have htl : t < h.length := by omega
  obtain ⟨s1, ops1, d1, A1, cap1, b1, off1, hx1, rfl, _, hb1, _, c0, c1, c2⟩ := hx.at_ hfl
  obtain ⟨s2, ops2, d2, A2, cap2, b2, off2, hx2, e2, _, hb2, _, g0, g1, g2⟩ := hx.at_ htl
  simp only [Option.some.injEq, Addr.mk.injEq] at e2
  obtain ⟨rfl, rfl, _⟩ := e2
  have n1 : (0 : Int) ≤ f := by omega
  have n2 : (0 : Int) ≤ t := by omega
  have n3 : ((f : Int) != t) = true := by simpa using hft
  have n4 : ¬ ((f : Int) = t) := hft
  have hd1 := dnB_some hx1
  have hd2 := dnB_some hx2
  simp only at hd1 hd2
  clear hx1 hx2
  cases d1 with
  | false =>
    have HS := Lib.hid (stay (by simp [putV, hd1]))
    clear stay
    go_enter Tryz.func36, Tryz.ntmps36
    go_wp2
    go_end0
    exact HS.out
  | true =>
    cases d2 with
    | false =>
      have HS := Lib.hid (stay (by simp [putV, hd2]))
      clear stay
      go_enter Tryz.func36, Tryz.ntmps36
      go_wp2
      go_end0
      exact HS.out
    | true =>
      have e : putV h f t k = [⟨f, t, k⟩] := by unfold putV; rw [if_pos ⟨hd1, hd2, n4⟩]
      have HE := Lib.hid e
      have HO := Lib.hid hO
      have HV := Lib.hid hv
      have HNe := Lib.hid hne
      have v0 : w.cell? ⟨Bl, 0, none⟩ = some v := (hv.cell 0).trans rfl
      have vf : w.frozen? ⟨Bl, 0, none⟩ = false := hv.frozen 0
      have hbs : base ≤ w.heap.size := by omega
      clear stay e hO hv hne hd1 hd2
      go_enter Tryz.func36, Tryz.ntmps36
      go_wp2_with (at_builtin; refine wpList_append3_at _ rfl _ _ 26 rfl base 51 Tryz.underlying26 infoEdgeS rfl v L rfl (HO.out.ext (by (repeat' (first | (with_reducible exact Below.refl _ _) | (with_reducible refine Below.mono (by assumption) ?_) | (with_reducible refine Below.trans ?_ (Below.mono (by assumption) ?_)) | (with_reducible refine Below.alloc ?_ ?_ _) | (with_reducible refine Below.drew ?_) | (with_reducible refine below_drewN ?_ _) | (with_reducible refine Below.setCell ?_ ?_ _) | (simp only [World.size_alloc, World.size_setCell, World.size_drew, size_drewN]; omega) | omega)))) _ f t k rfl ((lit_at _ _ _ 0).trans rfl) ((lit_at _ _ _ 1).trans rfl) ((lit_at _ _ _ 2).trans rfl) hn ?_ ?_)
      all_goals try (first | omega | (simp only [World.size_alloc, size_drewN]; omega) | (go_simp; done))
      intro v' w' hown' hgrow hv'
      have hEa : Ext w (w.alloc (.cells #[.int .i64 f, .int .i64 t, .int .i64 k] 51)) := by (repeat' (first | (with_reducible exact Below.refl _ _) | (with_reducible refine Below.mono (by assumption) ?_) | (with_reducible refine Below.trans ?_ (Below.mono (by assumption) ?_)) | (with_reducible refine Below.alloc ?_ ?_ _) | (with_reducible refine Below.drew ?_) | (with_reducible refine below_drewN ?_ _) | (with_reducible refine Below.setCell ?_ ?_ _) | (simp only [World.size_alloc, World.size_setCell, World.size_drew, size_drewN]; omega) | omega))
      have hsz : w.heap.size < w'.heap.size := by have := hgrow.size; simp only [World.size_alloc] at this; omega
      have hBl' : Blk w' Bl 26 #[v] := by
        have := hgrow.block Bl (by simp; omega) HNe.out
        unfold Blk
        rw [this]
        exact (HV.out.ext hEa)
      have z0 : w'.cell? ⟨Bl, 0, none⟩ = some v := (hBl'.cell 0).trans rfl
      have zf : w'.frozen? ⟨Bl, 0, none⟩ = false := hBl'.frozen 0
      have hne' : some Bl ≠ v'.ownBlock := by
        rcases hv' with e | e
        · rw [e]; exact HNe.out
        · rw [e]; simp only [World.size_alloc, ne_eq, Option.some.injEq]; omega
      obtain ⟨A9, c9, hv9, _⟩ := hown'.form
      generalize hn9 : (L ++ [(⟨f, t, k⟩ : T3)]).length = n9 at hv9
      subst hv9
      have HF := Lib.hid (show _ ∧ _ ∧ _ ∧ _ ∧ _ from ⟨hown', hgrow, hv', hBl', hne'⟩)
      clear hown' hgrow hv' hBl' hne' hn9
      go_wp2
      go_end0
      rw [HE.out]
      obtain ⟨hown', hgrow, hv', hBl', hne'⟩ := HF.out
      refine ⟨.slice A9 n9 c9, rfl, ?_, ?_, ?_⟩
      · have := hBl'.set_ 0 (.slice A9 n9 c9)
        simpa using this
      · exact World.ownsRow.kept hown' (grown_set _) (.inr (fun e => hne' e.symm))
      · refine ⟨hgrow.os, hgrow.tape, hgrow.output, by rw [World.size_setCell]; omega, fun b h1 h2 h3 => ?_, ?_⟩
        · rw [Below.heap_setCell _ ⟨Bl, 0, none⟩ _ b h2, hgrow.block b (by simp; omega) h3]
          exact hEa.block b h1
        · rcases hv' with e | e
          · exact .inl e
          · exact .inr ⟨_, e, by simp⟩
end Go.Proofs.YtdohbmegkkkchaaGreat
