/-
  The laws' marks on lists of rows.
-/
import Derived.Test.YtdgfipoibnjhaaaGLeaf47
namespace Go.Proofs.Ytdgfipoibnjhaaa
set_option linter.unusedSimpArgs false
set_option linter.unusedVariables false
set_option maxRecDepth 100000
open Go.RowKit

/-- only blocks of a list, and new ones, have changed -/
structure Grown (L : List Nat) (a b : World) : Prop where
  os : b.os = a.os
  tape : b.tape = a.tape
  output : b.output = a.output
  size : a.heap.size ≤ b.heap.size
  block : ∀ k, k < a.heap.size → k ∉ L → b.heap[k]? = a.heap[k]?
theorem Grown.refl (L : List Nat) (a : World) : Grown L a a := ⟨rfl, rfl, rfl, Nat.le_refl _, fun _ _ _ => rfl⟩
theorem Grown.tr {L : List Nat} {a b c : World} (h : Grown L a b) (k : Grown L b c) : Grown L a c :=
  ⟨k.os.trans h.os, k.tape.trans h.tape, k.output.trans h.output, Nat.le_trans h.size k.size, fun i hi hn => (k.block i (Nat.lt_of_lt_of_le hi h.size) hn).trans (h.block i hi hn)⟩
theorem Grown.sub {L M : List Nat} {a b : World} (h : Grown L a b) (hs : ∀ x ∈ L, x ∈ M) : Grown M a b := ⟨h.os, h.tape, h.output, h.size, fun k hk hn => h.block k hk (fun hm => hn (hs k hm))⟩
theorem Grown.of {a b : World} {g : Nat} (h : a.grownBy b (some g)) : Grown [g] a b := ⟨h.os, h.tape, h.output, h.size, fun k hk hn => h.block k hk (fun e => hn (by have := Option.some.inj e; rw [this]; simp))⟩
theorem Grown.cell {L : List Nat} {a b : World} (h : Grown L a b) {g o : Nat} (hg : g < a.heap.size) (hn : g ∉ L) : b.cell? ⟨g, o, none⟩ = a.cell? ⟨g, o, none⟩ := World.cell?_of_block (a := ⟨g, o, none⟩) (h.block g hg hn)
theorem Grown.soft {L : List Nat} {a b : World} (h : Grown L a b) {g : Nat} (hs : Soft a g) (hn : g ∉ L) : Soft b g :=
  ⟨Nat.lt_of_lt_of_le hs.1 h.size, fun o => by rw [World.frozen?_of_block (a := ⟨g, o, none⟩) (h.block g hs.1 hn)]; exact hs.2 o⟩
/-- numbers in one block -/
def RowIs (W : World) (g : Nat) (xs : List Int) : Prop := Ints (fun b => b = g) W (some ⟨g, 0, none⟩) xs
theorem RowIs.of {S : Nat → Prop} {W : World} {g : Nat} {xs : List Int} (h : Ints S W (some ⟨g, 0, none⟩) xs) : RowIs W g xs := fun i x hx => by
  obtain ⟨b, off, us, e, _, h2, h3, h4, h5⟩ := h i x hx
  cases e
  exact ⟨g, 0, us, rfl, rfl, h2, h3, h4, h5⟩
theorem RowIs.grown {L : List Nat} {a b : World} {g : Nat} {xs : List Int} (h : RowIs a g xs) (hG : Grown L a b) (hn : g ∉ L) : RowIs b g xs :=
  SlAt.keep h (kept_int _ _) hG.size (fun p hp hl => World.cell?_of_block (hG.block p.block hl (by have hp : p.block = g := hp; rw [hp]; exact hn)))
theorem RowIs.ext {a b : World} {g : Nat} {xs : List Int} (h : RowIs a g xs) (hE : Ext a b) : RowIs b g xs := Ints.ext h hE
/-- where the rows of an element lie -/
def Inn (W : World) (p : PX) : Prop := ∀ j r, p.ps[j]? = some r → ∃ g off gr, p.A = some ⟨g, off, none⟩ ∧ g < W.heap.size ∧ g ∉ blks p.ps ∧ W.cell? ⟨g, off + j, none⟩ = some r.cell ∧ r.A = some ⟨gr, 0, none⟩ ∧ gr ∈ blks p.ps
theorem blks_mem {ps : List PR} {j : Nat} {r : PR} {g : Nat} (hr : ps[j]? = some r) (hA : r.A = some ⟨g, 0, none⟩) : g ∈ blks ps := by
  unfold blks
  exact List.mem_filterMap.2 ⟨r, List.mem_of_getElem? hr, by unfold blkOf; rw [hA]; rfl⟩
theorem blks_take {ps : List PR} {k : Nat} {r : PR} {g : Nat} (hr : ps[k]? = some r) (hA : r.A = some ⟨g, 0, none⟩) : blks (ps.take (k + 1)) = blks (ps.take k) ++ [g] := by
  rw [List.take_add_one, hr, blks_app]
  congr 1
  obtain ⟨A, c, xs⟩ := r
  simp only at hA
  subst hA
  rfl
theorem blks_sub {ps : List PR} {k : Nat} : ∀ x ∈ blks (ps.take k), x ∈ blks ps := fun x hx => by
  unfold blks at hx ⊢
  obtain ⟨r, hr, e⟩ := List.mem_filterMap.1 hx
  exact List.mem_filterMap.2 ⟨r, List.mem_of_mem_take hr, e⟩
theorem blks_fresh {ps : List PR} (hn : (blks ps).Nodup) {k j : Nat} {r : PR} {g : Nat} (hr : ps[j]? = some r) (hA : r.A = some ⟨g, 0, none⟩) (hk : k ≤ j) : g ∉ blks (ps.take k) := fun hm => by
  have e : blks ps = blks (ps.take k) ++ blks (ps.drop k) := by rw [← blks_app, List.take_append_drop]
  rw [e, List.nodup_append] at hn
  refine hn.2.2 g hm g ?_ rfl
  refine blks_mem (j := j - k) ?_ hA
  rw [List.getElem?_drop, show k + (j - k) = j by omega]
  exact hr
theorem fresh_ne {ps : List PR} (hn : (blks ps).Nodup) {i j : Nat} {r s : PR} {g : Nat} (hr : ps[i]? = some r) (hs : ps[j]? = some s) (hA : r.A = some ⟨g, 0, none⟩) (hB : s.A = some ⟨g, 0, none⟩) : i = j := by
  rcases Nat.lt_trichotomy i j with h | h | h
  · exact absurd (blks_mem (ps := ps.take (i + 1)) (j := i) (by rw [List.getElem?_take_of_lt (Nat.lt_succ_self i)]; exact hr) hA) (blks_fresh hn hs hB h)
  · exact h
  · exact absurd (blks_mem (ps := ps.take (j + 1)) (j := j) (by rw [List.getElem?_take_of_lt (Nat.lt_succ_self j)]; exact hs) hB) (blks_fresh hn hr hA h)
set_option maxHeartbeats 4000000 in
theorem markIntSS_x (p : PX) (q : Int) (w : World) (hin : Inn w p) (hn : (blks p.ps).Nodup) (hs : ∀ b ∈ blks p.ps, Soft w b) (hr : ∀ (j : Nat) (r : PR) (g : Nat), p.ps[j]? = some r → r.A = some ⟨g, 0, none⟩ → RowIs w g r.xs) (hl : SmallR p.rows) (h0 : 0 ≤ q) (h1 : q ≤ 1000000) :
    Calls Try.prog 28 #[.slice p.A p.ps.length p.c, .int .i64 q] w fun e w' => e = .returned (.int .i64 (q + (tot p.rows : Nat))) ∧ (∀ (j : Nat) (r : PR) (g : Nat), p.ps[j]? = some r → r.A = some ⟨g, 0, none⟩ → RowIs w' g (marks1 (q + (tot (p.rows.take j) : Nat)) r.xs.length)) ∧ Grown (blks p.ps) w w' := by
  have hrl : p.rows.length = p.ps.length := by unfold PX.rows; rw [List.length_map]
  have hrr : ∀ (k : Nat) (r : PR), p.ps[k]? = some r → p.rows[k]? = some r.xs := fun k r h => by unfold PX.rows; rw [List.getElem?_map, h]; rfl
  obtain ⟨X, hX⟩ : ∃ X, p.rows = X := ⟨_, rfl⟩
  rw [hX] at hl hrl hrr ⊢
  obtain ⟨A, c, ps⟩ := p
  simp only at hn hs hr hrl hrr
  show Calls Try.prog 28 #[.slice A ps.length c, .int .i64 q] w fun e w' => e = .returned (.int .i64 (q + (tot X : Nat))) ∧ (∀ (j : Nat) (r : PR) (g : Nat), ps[j]? = some r → r.A = some ⟨g, 0, none⟩ → RowIs w' g (marks1 (q + (tot (X.take j) : Nat)) r.xs.length)) ∧ Grown (blks ps) w w'
  have hln := hl.len
  rw [hrl] at hln
  have HL := Lib.hid hl
  have HIn := Lib.hid hin
  have HN := Lib.hid hn
  have HS := Lib.hid hs
  have HR := Lib.hid hr
  have HRr := Lib.hid hrr
  have HRl := Lib.hid hrl
  clear hin hn hs hr hl hrl hX hrr
  go_enter Try.func28, Try.ntmps28
  go_wp2
  go_loopw [1, 5] (fun v i wr => ∃ k : Nat, k ≤ ps.length ∧ i = .int .i64 k ∧ v = .int .i64 (q + (tot (X.take k) : Nat)) ∧ (∀ (j : Nat) (r : PR) (g : Nat), ps[j]? = some r → r.A = some ⟨g, 0, none⟩ → RowIs wr g (if j < k then marks1 (q + (tot (X.take j) : Nat)) r.xs.length else r.xs)) ∧ Grown (blks (ps.take k)) w wr) (fun _ i _ => ps.length - (intOf i).toNat)
  case atStart => exact ⟨0, Nat.zero_le _, rfl, by simp [tot], fun j r g h1 h2 => by rw [if_neg (by omega)]; exact HR.out j r g h1 h2, Grown.refl _ _⟩
  case round =>
    obtain ⟨k, hk, rfl, rfl, hU, hG⟩ := hrel
    have HU := Lib.hid hU
    have HG := Lib.hid hG
    clear hU hG
    by_cases hlt : k < ps.length
    · obtain ⟨r, hrk⟩ : ∃ r, ps[k]? = some r := ⟨ps[k], List.getElem?_eq_getElem hlt⟩
      obtain ⟨g0, off, gr, hA, hgl, hgn, hc, hrA, hgm⟩ := HIn.out k r hrk
      have hx := HU.out k r gr hrk hrA
      rw [if_neg (by omega)] at hx
      have hxr := HRr.out k r hrk
      have hxl := HL.out.row hxr
      have HT := Lib.hid (tot_take hxr)
      have htl := tot_le X (k + 1)
      have htk := HT.out
      have hsm := HL.out
      unfold SmallR at hsm
      have hq3 : q + (tot (X.take k) : Nat) ≤ 1073741824 := by omega
      have hq0 : 0 ≤ q + (tot (X.take k) : Nat) := by omega
      have hnk := blks_fresh HN.out hrk hrA (Nat.le_refl k)
      have hso := HG.out.soft (HS.out gr hgm) hnk
      have hcw := (HG.out.cell (o := off + k) hgl (fun hm => hgn (blks_sub g0 hm))).trans hc
      have HBt := Lib.hid (blks_take hrk hrA)
      have HX := Lib.hid hx
      have HSo := Lib.hid hso
      have HRk := Lib.hid hrk
      have HrA := Lib.hid hrA
      have hrcell : r.cell = .slice (some ⟨gr, 0, none⟩) r.xs.length r.c := by unfold PR.cell; rw [hrA]
      rw [hrcell] at hcw
      simp only at hA
      subst hA
      clear hc hxr htk hsm hx hso hrk hrA hrcell
      go_wp2_with (fail)
      go_at_call 42
      refine (markIntS_c r.xs _ _ _ _ _ HX.out (fun a ha => by cases ha; exact HSo.out.2) hxl hq0 hq3).mono ?_
      rintro e w2 ⟨rfl, hM, hg, hf⟩
      have hg1 : Grown [gr] wr w2 := Grown.of hg
      have HU2 := Lib.hid (show ∀ (j : Nat) (s : PR) (g : Nat), ps[j]? = some s → s.A = some ⟨g, 0, none⟩ → RowIs w2 g (if j < k + 1 then marks1 (q + (tot (X.take j) : Nat)) s.xs.length else s.xs) from fun j s g hs hsA => by
        by_cases e : j = k
        · subst e
          rw [HRk.out] at hs
          cases hs
          rw [HrA.out] at hsA
          cases hsA
          rw [if_pos (by omega)]
          exact hM
        · have e2 : (if j < k + 1 then marks1 (q + (tot (X.take j) : Nat)) s.xs.length else s.xs) = (if j < k then marks1 (q + (tot (X.take j) : Nat)) s.xs.length else s.xs) := by
            by_cases h : j < k
            · rw [if_pos h, if_pos (by omega)]
            · rw [if_neg h, if_neg (by omega)]
          rw [e2]
          refine (HU.out j s g hs hsA).grown hg1 (fun hm => ?_)
          rw [List.mem_singleton] at hm
          subst hm
          exact e (fresh_ne HN.out hs HRk.out hsA HrA.out))
      have HG2 := Lib.hid (show Grown (blks (ps.take (k + 1))) w w2 from by
        rw [HBt.out]
        exact (HG.out.sub (fun x hx => List.mem_append_left _ hx)).tr (hg1.sub (fun x hx => List.mem_append_right _ hx)))
      clear hM hg hf hg1
      go_wp2
      refine ⟨⟨k + 1, by omega, by go_num, ?_, HU2.out, HG2.out⟩, by simp [intOf]; omega⟩
      rw [HT.out]
      go_num
    · obtain rfl : k = ps.length := by omega
      have HF := Lib.hid (show (∀ (j : Nat) (r : PR) (g : Nat), ps[j]? = some r → r.A = some ⟨g, 0, none⟩ → RowIs wr g (marks1 (q + (tot (X.take j) : Nat)) r.xs.length)) ∧ Grown (blks ps) w wr from ⟨fun j r g h1 h2 => by
        have := HU.out j r g h1 h2
        rw [if_pos (List.getElem?_eq_some_iff.1 h1).1] at this
        exact this, by
        have := HG.out
        rw [List.take_length] at this
        exact this⟩)
      have HTt := Lib.hid (show X.take ps.length = X from List.take_of_length_le (by rw [HRl.out]; exact Nat.le_refl _))
      rw [HTt.out]
      go_wp2
      go_ret
      exact ⟨rfl, HF.out⟩
set_option maxHeartbeats 2000000 in
theorem heldIntSS_x (p : PX) (q : Int) (w : World) (hin : Inn w p) (hr : ∀ (j : Nat) (r : PR) (g : Nat), p.ps[j]? = some r → r.A = some ⟨g, 0, none⟩ → RowIs w g (marks1 (q + (tot (p.rows.take j) : Nat)) r.xs.length)) (hl : SmallR p.rows) (h0 : 0 ≤ q) (h1 : q ≤ 1000000) :
    Calls Try.prog 29 #[.slice p.A p.ps.length p.c, .int .i64 q] w fun e w' => e = .returned (.int .i64 (q + (tot p.rows : Nat))) ∧ w = w' := by
  have hrl : p.rows.length = p.ps.length := by unfold PX.rows; rw [List.length_map]
  have hrr : ∀ (k : Nat) (r : PR), p.ps[k]? = some r → p.rows[k]? = some r.xs := fun k r h => by unfold PX.rows; rw [List.getElem?_map, h]; rfl
  obtain ⟨X, hX⟩ : ∃ X, p.rows = X := ⟨_, rfl⟩
  rw [hX] at hl hrl hrr hr ⊢
  obtain ⟨A, c, ps⟩ := p
  simp only at hr hrl hrr
  show Calls Try.prog 29 #[.slice A ps.length c, .int .i64 q] w fun e w' => e = .returned (.int .i64 (q + (tot X : Nat))) ∧ w = w'
  have hln := hl.len
  rw [hrl] at hln
  have HL := Lib.hid hl
  have HIn := Lib.hid hin
  have HR := Lib.hid hr
  have HRr := Lib.hid hrr
  have HRl := Lib.hid hrl
  clear hin hr hl hrl hX hrr
  go_enter Try.func29, Try.ntmps29
  go_wp2
  go_loop [1, 5] (fun v i => ∃ k : Nat, k ≤ ps.length ∧ i = .int .i64 k ∧ v = .int .i64 (q + (tot (X.take k) : Nat))) (fun _ i => ps.length - (intOf i).toNat)
  case atStart => exact ⟨0, Nat.zero_le _, rfl, by simp [tot]⟩
  case round =>
    obtain ⟨k, hk, rfl, rfl⟩ := hrel
    by_cases hlt : k < ps.length
    · obtain ⟨r, hrk⟩ : ∃ r, ps[k]? = some r := ⟨ps[k], List.getElem?_eq_getElem hlt⟩
      obtain ⟨g0, off, gr, hA, hgl, hgn, hcw, hrA, hgm⟩ := HIn.out k r hrk
      have hx := HR.out k r gr hrk hrA
      have hxr := HRr.out k r hrk
      have hxl := HL.out.row hxr
      have HT := Lib.hid (tot_take hxr)
      have htl := tot_le X (k + 1)
      have htk := HT.out
      have hsm := HL.out
      unfold SmallR at hsm
      have HX := Lib.hid hx
      have hrcell : r.cell = .slice (some ⟨gr, 0, none⟩) r.xs.length r.c := by unfold PR.cell; rw [hrA]
      rw [hrcell] at hcw
      simp only at hA
      subst hA
      have hq3 : q + (tot (X.take k) : Nat) ≤ 1073741824 := by omega
      have hq0 : 0 ≤ q + (tot (X.take k) : Nat) := by omega
      have hq4 : q + (tot (X.take k) : Nat) + (r.xs.length : Nat) ≤ 1073741824 := by omega
      have hq5 : 0 ≤ q + (tot (X.take k) : Nat) + (r.xs.length : Nat) := by omega
      clear hxr htk hsm hx hrk hrA hrcell
      go_wp2_with (fail)
      go_at_call 43
      refine (heldIntS_c r.xs.length (fun b => b = gr) _ _ _ _ HX.out hxl hq0 hq3).mono ?_
      rintro e w2 ⟨rfl, rfl⟩
      go_wp2
      refine ⟨⟨k + 1, by omega, by go_num, ?_⟩, by simp [intOf]; omega⟩
      rw [HT.out]
      go_num
    · obtain rfl : k = ps.length := by omega
      have HTt := Lib.hid (show X.take ps.length = X from List.take_of_length_le (by rw [HRl.out]; exact Nat.le_refl _))
      rw [HTt.out]
      go_wp2
      go_ret
      exact ⟨rfl, rfl⟩
end Go.Proofs.Ytdgfipoibnjhaaa
