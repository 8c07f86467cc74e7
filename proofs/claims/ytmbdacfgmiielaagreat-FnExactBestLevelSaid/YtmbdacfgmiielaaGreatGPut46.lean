/-
  Plain facts: runs of equal edges written once; three numbers written in place.
-/
import Derived.Test.YtmbdacfgmiielaaGreatEdS
import Derived.Test.YtmbdacfgmiielaaGreatGCmpE19
/-
  The closure of the program's EdgesOf: one more edge, where its ends are committed and differ.
-/
namespace Go.Proofs.YtmbdacfgmiielaaGreat
set_option linter.unusedSimpArgs false
set_option linter.unusedVariables false
set_option maxRecDepth 100000
open Go.RowKit

/-- what one more edge leaves as it was -/
structure PutR (Bl : Nat) (v v' : Value) (w w' : World) : Prop where
  os : w'.os = w.os
  tape : w'.tape = w.tape
  output : w'.output = w.output
  size : w.heap.size ≤ w'.heap.size
  keep : ∀ b, b < w.heap.size → b ≠ Bl → some b ≠ v.ownBlock → w'.heap[b]? = w.heap[b]?
  own : v'.ownBlock = v.ownBlock ∨ ∃ n, v'.ownBlock = some n ∧ w.heap.size ≤ n
theorem PutR.refl (Bl : Nat) (v : Value) (w : World) : PutR Bl v v w w := ⟨rfl, rfl, rfl, Nat.le_refl _, fun _ _ _ _ => rfl, .inl rfl⟩
theorem PutR.cell {Bl : Nat} {v v' : Value} {w w' : World} (h : PutR Bl v v' w w') {p : Addr} (h1 : p.block < w.heap.size) (h2 : p.block ≠ Bl) (h3 : some p.block ≠ v.ownBlock) : w'.cell? p = w.cell? p := World.cell?_of_block (h.keep _ h1 h2 h3)
theorem PutR.frozen {Bl : Nat} {v v' : Value} {w w' : World} (h : PutR Bl v v' w w') {p : Addr} (h1 : p.block < w.heap.size) (h2 : p.block ≠ Bl) (h3 : some p.block ≠ v.ownBlock) : w'.frozen? p = w.frozen? p := by simp only [World.frozen?, h.keep _ h1 h2 h3]
theorem PutR.ints {Bl : Nat} {v v' : Value} {w w' : World} (h : PutR Bl v v' w w') {S : Nat → Prop} {A : Option Addr} {xs : List Int} (hx : Ints S w A xs) (hS : ∀ b, S b → b < w.heap.size → b ≠ Bl ∧ some b ≠ v.ownBlock) : Ints S w' A xs :=
  SlAt.keep hx (kept_int _ _) h.size (fun p hp hl => h.cell hl (hS _ hp hl).1 (hS _ hp hl).2)
theorem PutR.ops {Bl : Nat} {v v' : Value} {w w' : World} (h : PutR Bl v v' w w') {S : Nat → Prop} {A : Option Addr} {xs : List T3} (hx : Ops S w A xs) (hS : ∀ b, S b → b < w.heap.size → b ≠ Bl ∧ some b ≠ v.ownBlock) : Ops S w' A xs :=
  SlAt.keep hx (kept_3 _ _) h.size (fun p hp hl => h.cell hl (hS _ hp hl).1 (hS _ hp hl).2)
theorem PutR.below {Bl base : Nat} {v v' : Value} {w0 w w' : World} (h : PutR Bl v v' w w') (hE : Below base w0 w) (hb : base ≤ w.heap.size) (hl : base ≤ Bl) (hv : ∀ g, v.ownBlock = some g → base ≤ g) : Below base w0 w' :=
  ⟨h.os.trans hE.os, h.tape.trans hE.tape, h.output.trans hE.output, Nat.le_trans hE.size h.size, fun k hk => (h.keep k (Nat.lt_of_lt_of_le hk hb) (by omega) (fun e => by have := hv k e.symm; omega)).trans (hE.block k hk)⟩
theorem PutR.some_ {Bl : Nat} {v v' : Value} {w w' : World} (h : PutR Bl v v' w w') (hv : ∃ g, v.ownBlock = some g) : ∃ g, v'.ownBlock = some g := by
  rcases h.own with e | ⟨n, e, _⟩
  · rw [e]; exact hv
  · exact ⟨n, e⟩
theorem PutR.off {Bl lo hi : Nat} {v v' : Value} {w w' : World} (h : PutR Bl v v' w w') (ho : Off v lo hi) (hh : hi ≤ w.heap.size) : Off v' lo hi := by
  rcases h.own with e | ⟨n, e, hn⟩
  · intro g hg; exact ho g (e ▸ hg)
  · intro g hg
    rw [e] at hg
    cases hg
    exact .inr (by omega)

/-- one more edge -/
abbrev PutQ (base Bl : Nat) (v : Value) (L : List T3) (w : World) (e : Ending) (w' : World) : Prop :=
  ∃ v', e = .returned (.tuple #[]) ∧ Blk w' Bl 55 #[v'] ∧ Own3 w' base 76 v' L ∧ PutR Bl v v' w w'
set_option maxHeartbeats 4000000 in
theorem put_c (h : List TxnT) (f t k : Int) (Bh Bl base : Nat) (A : Option Addr) (c : Nat) (S : Nat → Prop) (v : Value) (L : List T3) (w : World) (hx : Txns S w A h) (hh : w.cell? ⟨Bh, 0, none⟩ = some (.slice A h.length c)) (hhl : Bh < w.heap.size) (hv : Blk w Bl 55 #[v]) (hO : Own3 w base 76 v L)
    (hne : some Bl ≠ v.ownBlock) (hbl : base ≤ Bl) (hn : L.length ≤ 1048576) (hf : f < h.length) (ht : t < h.length) :
    Calls Tryz.prog 49 #[.int .i64 f, .int .i64 t, .int .i64 k, .pointer (some ⟨Bh, 0, none⟩), .pointer (some ⟨Bl, 0, none⟩)] w (PutQ base Bl v (L ++ putV h f t k) w) := by
  have hBl := hv.lt
  have stay : putV h f t k = [] → PutQ base Bl v (L ++ putV h f t k) w (.returned (.tuple #[])) w := fun e => by
    rw [e, List.append_nil]
    exact ⟨v, rfl, hv, hO, PutR.refl _ _ _⟩
  by_cases hf0 : f < 0
  · have e : putV h f t k = [] := by simp [putV, dnB_neg hf0]
    have HS := Lib.hid (stay e)
    have h1 : ¬ (0 ≤ f) := by omega
    clear stay e
    go_enter Tryz.func49, Tryz.ntmps49
    go_wp2
    go_end0
    exact HS.out
  by_cases ht0 : t < 0
  · have e : putV h f t k = [] := by simp [putV, dnB_neg ht0]
    have HS := Lib.hid (stay e)
    have h1 : ¬ (0 ≤ t) := by omega
    have h2 : 0 ≤ f := by omega
    clear stay e
    go_enter Tryz.func49, Tryz.ntmps49
    go_wp2
    go_end0
    exact HS.out
  by_cases hft : f = t
  · subst hft
    have e : putV h f f k = [] := by simp [putV]
    have HS := Lib.hid (stay e)
    have h1 : 0 ≤ f := by omega
    have h3 : (f != f) = false := by simp
    clear stay e
    go_enter Tryz.func49, Tryz.ntmps49
    go_wp2
    go_end0
    exact HS.out
  obtain ⟨f, rfl⟩ := Int.eq_ofNat_of_zero_le (show 0 ≤ f by omega)
  obtain ⟨t, rfl⟩ := Int.eq_ofNat_of_zero_le (show 0 ≤ t by omega)
  have hfl : f < h.length := by omega
  have htl : t < h.length := by omega
  obtain ⟨s1, ops1, d1, A1, cap1, b1, off1, hx1, rfl, _, hb1, _, c0, c1, c2⟩ := hx.at_ hfl
  obtain ⟨s2, ops2, d2, A2, cap2, b2, off2, hx2, e2, _, hb2, _, g0, g1, g2⟩ := hx.at_ htl
  simp only [Option.some.injEq, Addr.mk.injEq] at e2
  obtain ⟨rfl, rfl, _⟩ := e2
  have n1 : (0 : Int) ≤ f := by omega
  have n2 : (0 : Int) ≤ t := by omega
  have n3 : ((f : Int) != t) = true := by simpa using hft
  have n4 : ¬ ((f : Int) = t) := hft
  have hd1 := dnB_some hx1
  have hd2 := dnB_some hx2
  simp only at hd1 hd2
  clear hx1 hx2
  cases d1 with
  | false =>
    have HS := Lib.hid (stay (by simp [putV, hd1]))
    clear stay
    go_enter Tryz.func49, Tryz.ntmps49
    go_wp2
    go_end0
    exact HS.out
  | true =>
    cases d2 with
    | false =>
      have HS := Lib.hid (stay (by simp [putV, hd2]))
      clear stay
      go_enter Tryz.func49, Tryz.ntmps49
      go_wp2
      go_end0
      exact HS.out
    | true =>
      have e : putV h f t k = [⟨f, t, k⟩] := by unfold putV; rw [if_pos ⟨hd1, hd2, n4⟩]
      have HE := Lib.hid e
      have HO := Lib.hid hO
      have HV := Lib.hid hv
      have HNe := Lib.hid hne
      have v0 : w.cell? ⟨Bl, 0, none⟩ = some v := (hv.cell 0).trans rfl
      have vf : w.frozen? ⟨Bl, 0, none⟩ = false := hv.frozen 0
      have hbs : base ≤ w.heap.size := by omega
      clear stay e hO hv hne hd1 hd2
      go_enter Tryz.func49, Tryz.ntmps49
      go_wp2_with (at_builtin; refine wpList_append3_at _ rfl _ _ 55 rfl base 76 Tryz.underlying55 infoEdgeS rfl v L rfl (HO.out.ext (by (repeat' (first | (with_reducible exact Below.refl _ _) | (with_reducible refine Below.mono (by assumption) ?_) | (with_reducible refine Below.trans ?_ (Below.mono (by assumption) ?_)) | (with_reducible refine Below.alloc ?_ ?_ _) | (with_reducible refine Below.drew ?_) | (with_reducible refine below_drewN ?_ _) | (with_reducible refine Below.setCell ?_ ?_ _) | (simp only [World.size_alloc, World.size_setCell, World.size_drew, size_drewN]; omega) | omega)))) _ f t k rfl ((lit_at _ _ _ 0).trans rfl) ((lit_at _ _ _ 1).trans rfl) ((lit_at _ _ _ 2).trans rfl) hn ?_ ?_)
      all_goals try (first | omega | (simp only [World.size_alloc, size_drewN]; omega) | (go_simp; done))
      intro v' w' hown' hgrow hv'
      have hEa : Ext w (w.alloc (.cells #[.int .i64 f, .int .i64 t, .int .i64 k] 76)) := by (repeat' (first | (with_reducible exact Below.refl _ _) | (with_reducible refine Below.mono (by assumption) ?_) | (with_reducible refine Below.trans ?_ (Below.mono (by assumption) ?_)) | (with_reducible refine Below.alloc ?_ ?_ _) | (with_reducible refine Below.drew ?_) | (with_reducible refine below_drewN ?_ _) | (with_reducible refine Below.setCell ?_ ?_ _) | (simp only [World.size_alloc, World.size_setCell, World.size_drew, size_drewN]; omega) | omega))
      have hsz : w.heap.size < w'.heap.size := by have := hgrow.size; simp only [World.size_alloc] at this; omega
      have hBl' : Blk w' Bl 55 #[v] := by
        have := hgrow.block Bl (by simp; omega) HNe.out
        unfold Blk
        rw [this]
        exact (HV.out.ext hEa)
      have z0 : w'.cell? ⟨Bl, 0, none⟩ = some v := (hBl'.cell 0).trans rfl
      have zf : w'.frozen? ⟨Bl, 0, none⟩ = false := hBl'.frozen 0
      have hne' : some Bl ≠ v'.ownBlock := by
        rcases hv' with e | e
        · rw [e]; exact HNe.out
        · rw [e]; simp only [World.size_alloc, ne_eq, Option.some.injEq]; omega
      obtain ⟨A9, c9, hv9, _⟩ := hown'.form
      generalize hn9 : (L ++ [(⟨f, t, k⟩ : T3)]).length = n9 at hv9
      subst hv9
      have HF := Lib.hid (show _ ∧ _ ∧ _ ∧ _ ∧ _ from ⟨hown', hgrow, hv', hBl', hne'⟩)
      clear hown' hgrow hv' hBl' hne' hn9
      go_wp2
      go_end0
      rw [HE.out]
      obtain ⟨hown', hgrow, hv', hBl', hne'⟩ := HF.out
      refine ⟨.slice A9 n9 c9, rfl, ?_, ?_, ?_⟩
      · have := hBl'.set_ 0 (.slice A9 n9 c9)
        simpa using this
      · exact World.ownsRow.kept hown' (grown_set _) (.inr (fun e => hne' e.symm))
      · refine ⟨hgrow.os, hgrow.tape, hgrow.output, by rw [World.size_setCell]; omega, fun b h1 h2 h3 => ?_, ?_⟩
        · rw [Below.heap_setCell _ ⟨Bl, 0, none⟩ _ b h2, hgrow.block b (by simp; omega) h3]
          exact hEa.block b h1
        · rcases hv' with e | e
          · exact .inl e
          · exact .inr ⟨_, e, by simp⟩
end Go.Proofs.YtmbdacfgmiielaaGreat
namespace Go.Proofs.YtmbdacfgmiielaaGreat
set_option linter.unusedSimpArgs false
set_option linter.unusedVariables false
set_option maxRecDepth 100000

/-- the first edges of runs, up to a place -/
def uqTo (ys : List T3) : Nat → List T3
  | 0 => []
  | n + 1 => match ys[n]? with
    | some x => if n ≠ 0 ∧ ys[n - 1]? = some x then uqTo ys n else uqTo ys n ++ [x]
    | none => uqTo ys n
theorem uq_dup {ys : List T3} {n : Nat} {x : T3} (hx : ys[n + 1]? = some x) (hy : ys[n]? = some x) : uqTo ys (n + 2) = uqTo ys (n + 1) := by
  conv => lhs; unfold uqTo
  rw [hx]
  simp only
  rw [if_pos ⟨by omega, by simpa using hy⟩]
theorem uq_new {ys : List T3} {n : Nat} {x y : T3} (hx : ys[n + 1]? = some x) (hy : ys[n]? = some y) (hne : x ≠ y) : uqTo ys (n + 2) = uqTo ys (n + 1) ++ [x] := by
  conv => lhs; unfold uqTo
  rw [hx]
  simp only
  rw [if_neg]
  rintro ⟨_, h⟩
  rw [show n + 1 - 1 = n by omega, hy] at h
  exact hne (by simpa using h.symm)
theorem uq_one {ys : List T3} (h : 0 < ys.length) : uqTo ys 1 = ys.take 1 := by
  cases ys with
  | nil => simp at h
  | cons y ys => simp [uqTo]
theorem uq_len (ys : List T3) (n : Nat) : (uqTo ys n).length ≤ n := by
  induction n with
  | zero => simp [uqTo]
  | succ n ih =>
    unfold uqTo
    split
    · split
      · omega
      · rw [List.length_append, List.length_singleton]; omega
    · omega
theorem uq_mem {ys : List T3} {n : Nat} (hn : n ≤ ys.length) (x : T3) : x ∈ uqTo ys n ↔ x ∈ ys.take n := by
  induction n with
  | zero => simp [uqTo]
  | succ n ih =>
    have ih := ih (by omega)
    have hx := List.getElem?_eq_getElem (l := ys) (i := n) (by omega)
    unfold uqTo
    rw [hx]
    simp only
    rw [List.take_add_one, hx, Option.toList, List.mem_append, List.mem_singleton]
    split
    · rename_i hc
      refine ⟨fun h => .inl (ih.1 h), fun h => ?_⟩
      rcases h with h | h
      · exact ih.2 h
      · subst h
        refine ih.2 (List.mem_iff_getElem?.2 ⟨n - 1, ?_⟩)
        rw [List.getElem?_take_of_lt (by omega)]
        exact hc.2
    · rw [List.mem_append, List.mem_singleton, ih]
theorem uq_pw {ys : List T3} (hp : ys.Pairwise (fun x y => ¬ ltE y x)) {n : Nat} (hn : n ≤ ys.length) : (uqTo ys n).Pairwise ltE := by
  induction n with
  | zero => exact List.Pairwise.nil
  | succ n ih =>
    have ih := ih (by omega)
    have hx := List.getElem?_eq_getElem (l := ys) (i := n) (by omega)
    unfold uqTo
    rw [hx]
    simp only
    split
    · exact ih
    · rename_i hc
      rw [List.pairwise_append]
      refine ⟨ih, by simp, fun a ha b hb => ?_⟩
      rw [List.mem_singleton] at hb
      subst hb
      obtain ⟨i, hi⟩ := List.mem_iff_getElem?.1 ((uq_mem (by omega) a).1 ha)
      have hil : i < n := by
        have := (List.getElem?_eq_some_iff.1 hi).1
        rw [List.length_take] at this
        omega
      rw [List.getElem?_take_of_lt hil] at hi
      obtain ⟨hi1, hi2⟩ := List.getElem?_eq_some_iff.1 hi
      have P := List.pairwise_iff_getElem.1 hp
      have h1 := P i n hi1 (by omega) hil
      rw [hi2] at h1
      have h3 := List.getElem?_eq_getElem (l := ys) (i := n - 1) (by omega)
      rw [h3] at hc
      have h4 := P (n - 1) n (by omega) (by omega) (by omega)
      have h5 : ys[n - 1] ≠ ys[n] := fun e => hc ⟨by omega, by rw [e]⟩
      by_cases he : i = n - 1
      · subst he
        rw [hi2] at h4 h5
        generalize ys[n] = b at h4 h5
        obtain ⟨a1, a2, a3⟩ := a
        obtain ⟨b1, b2, b3⟩ := b
        simp only [ne_eq, T3.mk.injEq] at h5
        unfold ltE at *
        simp only at *
        omega
      · have h6 := P i (n - 1) hi1 (by omega) (by omega)
        rw [hi2] at h6
        generalize ys[n] = b at h1 h4 h5 ⊢
        generalize ys[n - 1] = m at h4 h5 h6
        obtain ⟨a1, a2, a3⟩ := a
        obtain ⟨b1, b2, b3⟩ := b
        obtain ⟨m1, m2, m3⟩ := m
        simp only [ne_eq, T3.mk.injEq] at h5
        unfold ltE at *
        simp only at *
        omega

theorem flat3_set (ds : List T3) : ∀ (k : Nat) (u : T3), k < ds.length → (((flat3 ds).set (k * 3) (.int .i64 u.a)).set (k * 3 + 1) (.int .i64 u.b)).set (k * 3 + 2) (.int .i64 u.c) = flat3 (ds.set k u) := by
  induction ds with
  | nil => intro k u h; simp at h
  | cons d ds ih =>
    intro k u hk
    have e : flat3 (d :: ds) = .int .i64 d.a :: .int .i64 d.b :: .int .i64 d.c :: flat3 ds := by simp [flat3]
    cases k with
    | zero => rw [e]; simp [flat3]
    | succ k =>
      have h1 := ih k u (by simpa using hk)
      rw [e, show (k + 1) * 3 = k * 3 + 1 + 1 + 1 by omega]
      simp only [List.set_cons_succ]
      rw [h1]
      simp [flat3]
/-- a whole block whose first cells are these edges -/
def EB (w : World) (g : Nat) (ds : List T3) : Prop := ∃ cs : Array Value, w.heap[g]? = some (.cells cs 76 (0, 0)) ∧ cs.toList.take (ds.length * 3) = flat3 ds
theorem EB.lt {w : World} {g : Nat} {ds : List T3} (h : EB w g ds) : g < w.heap.size := by
  obtain ⟨cs, h, _⟩ := h
  exact (Array.getElem?_eq_some_iff.1 h).1
theorem EB.frozen {w : World} {g : Nat} {ds : List T3} (h : EB w g ds) (o : Nat) : w.frozen? ⟨g, o, none⟩ = false := by
  obtain ⟨cs, h, _⟩ := h
  simp [World.frozen?, h]
theorem EB.ops {w : World} {g : Nat} {ds : List T3} (h : EB w g ds) {S : Nat → Prop} (hS : S g) : Ops S w (some ⟨g, 0, none⟩) ds := by
  have hlt := h.lt
  obtain ⟨cs, h, ht⟩ := h
  intro i x hx
  refine ⟨g, 0, _, rfl, hS, hlt, rfl, rfl, fun j u hu => ?_⟩
  have h1 := flat3_at ds i x hx j u hu
  rw [cell_of_row w g _ cs _ (0, 0) h, ← h1, ← ht, List.getElem?_take, if_pos]
  · simp
  · have h2 : i < ds.length := (List.getElem?_eq_some_iff.1 hx).1
    have h3 : j < 3 := by have := (List.getElem?_eq_some_iff.1 hu).1; simpa using this
    omega
theorem EB.ext {w w' : World} {g : Nat} {ds : List T3} (h : EB w g ds) (hE : Ext w w') : EB w' g ds := by
  have hlt := h.lt
  obtain ⟨cs, h, ht⟩ := h
  exact ⟨cs, by rw [hE.block g hlt]; exact h, ht⟩
theorem EB.set_ {w : World} {g : Nat} {ds : List T3} (h : EB w g ds) {k : Nat} (hk : k < ds.length) (a b c : Int) :
    EB (((w.setCell ⟨g, k * 3, none⟩ (.int .i64 a)).setCell ⟨g, k * 3 + 1, none⟩ (.int .i64 b)).setCell ⟨g, k * 3 + 2, none⟩ (.int .i64 c)) g (ds.set k ⟨a, b, c⟩) := by
  obtain ⟨cs, h, ht⟩ := h
  refine ⟨((cs.setIfInBounds (k * 3) (.int .i64 a)).setIfInBounds (k * 3 + 1) (.int .i64 b)).setIfInBounds (k * 3 + 2) (.int .i64 c), ?_, ?_⟩
  · simp [World.setCell, Array.getElem?_modify, h]
  · rw [← flat3_set ds k ⟨a, b, c⟩ hk, ← ht]
    simp only [Array.toList_setIfInBounds, List.length_set, List.take_set]
end Go.Proofs.YtmbdacfgmiielaaGreat
