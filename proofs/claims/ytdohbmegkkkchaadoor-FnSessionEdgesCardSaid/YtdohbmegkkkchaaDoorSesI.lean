/-
  Contracts of SessionEdges, the reference's and the program's.
-/
import Derived.Test.YtdohbmegkkkchaaDoorSes
import Derived.Test.YtdohbmegkkkchaaDoorRes
import Derived.Deep.RegionWith
import Derived.Deep.CutBlock
namespace Go.Proofs.YtdohbmegkkkchaaDoor
set_option linter.unusedSimpArgs false
set_option linter.unusedVariables false
set_option maxRecDepth 100000
open Go.RowKit

theorem infoEdgeS : (Tryd.prog.info? 29).map (fun i => (i.zero, i.size, i.bytes)) = some (some (.agg #[.int .i64 0, .int .i64 0, .int .i64 0]), 3, 24) := by kernel_rfl
theorem ops_within_hi {lo : Nat} {w : World} {A : Option Addr} {xs : List T3} (h : Ops (fun b => lo ≤ b) w A xs) : Ops (fun b => lo ≤ b ∧ b < w.heap.size) w A xs := SlAt.mono h (fun b hb hl => ⟨hb, hl⟩) (fun _ _ h => h)
theorem own3_lt {w : World} {base : Nat} {e : TypeId} {v : Value} {xs : List T3} (h : Own3 w base e v xs) : ∀ g, v.ownBlock = some g → base ≤ g ∧ g < w.heap.size := fun g hg => World.ownsRow.lt h g hg
/-- append of one three-number struct, and where the new slice lies -/
theorem wpList_append3_at {P : Program} (w : World) {ops : Array Oper} {rest : List Oper} {o : Oper} {a : Act} {Q : Exit → Act → World → Prop} (hgd : o.guard = none) (s x : Operand) (t : TypeId)
    (ho : o.op = .call { callee := .builtin .append, args := #[s, x], argTypes := #[t, t] })
    (base : Nat) (e : TypeId) {z : Value} (ht : P.underlying t = some (.slice e)) (hinfo : (P.info? e).map (fun i => (i.zero, i.size, i.bytes)) = some (some z, 3, 24)) (hzs : z.cells.size = 3)
    (v : Value) (xs : List T3) (hs : a.eval s = v) (hown : Own3 w base e v xs)
    (g : Nat) (x0 x1 x2 : Int) (hx : a.eval x = .slice (some ⟨g, 0, none⟩) 1 1) (c0 : w.cell? ⟨g, 0, none⟩ = some (.int .i64 x0)) (c1 : w.cell? ⟨g, 1, none⟩ = some (.int .i64 x1)) (c2 : w.cell? ⟨g, 2, none⟩ = some (.int .i64 x2))
    (hn : xs.length ≤ 1048576) (hbase : base ≤ w.heap.size)
    (h : ∀ v' w', Own3 w' base e v' (xs ++ [⟨x0, x1, x2⟩]) → w.grownBy w' v.ownBlock → (v'.ownBlock = v.ownBlock ∨ v'.ownBlock = some w.heap.size) → wpList P ops Q rest (a.put o.dst v') w') : wpList P ops Q (o :: rest) a w := by
  obtain ⟨i0, hi, hz0, hz1, hz2⟩ := info_parts hinfo
  refine wpList_append_own_at w hgd s x t ho base e i0 z 3 24 ht hi hz0 hz1 hz2 hzs (by decide) v xs.length (flat3 xs) hs hown ⟨g, 0, none⟩ 1 1 [.int .i64 x0, .int .i64 x1, .int .i64 x2] hx rfl ?_ ?_ (by unfold maxLen; omega) (by omega) hbase ?_
  · intro j u hu
    match j, hu with
    | 0, hu => cases hu; exact c0
    | 1, hu => cases hu; exact c1
    | 2, hu => cases hu; exact c2
    | j + 3, hu => simp at hu
  · intro u hu
    simp at hu
    rcases hu with rfl | rfl | rfl <;> rfl
  · intro v' w' h1 h2 _ h3
    refine h v' w' ?_ h2 h3
    unfold Own3
    rw [flat3_app, List.length_append]
    exact h1
theorem lit_at (w : World) (cs : Array Value) (t : TypeId) (i : Nat) : (w.alloc (.cells cs t)).cell? ⟨w.heap.size, i, none⟩ = cs[i]? := by simp [World.cell?_alloc_new]
theorem blk_some {v v' : Value} {n : Nat} (h : ∃ g, v.ownBlock = some g) (hv : v'.ownBlock = v.ownBlock ∨ v'.ownBlock = some n) : ∃ g, v'.ownBlock = some g := by
  rcases hv with e | e
  · rw [e]; exact h
  · exact ⟨n, e⟩
theorem Fresh.nil (w w' : World) (hE : Ext w w') : Fresh [] w (.returned (.slice none 0 0)) w' := ⟨none, 0, rfl, SlAt.nil, (fun a ha => by cases ha), hE⟩

set_option maxHeartbeats 4000000 in
theorem implSessionEdges_c (h : List TxnT) (S : Nat → Prop) (A : Option Addr) (c : Nat) (w : World) (hx : Txns S w A h) (hsm : Small h) :
    Calls Tryd.prog 9 #[.slice A h.length c] w (Fresh (if histv h = true then sesV h else []) w) := by
  have C := fun w hx => implHistoryValid_c h S A c w hx hsm
  have hn := hsm.len
  cases hv : histv h with
  | false =>
    rw [hv] at C
    rw [if_neg (by simp)]
    have C := Lib.hid C
    go_enter Tryd.func9, Tryd.ntmps9
    go_wp2_with (go_at_call 31; refine (C.out _ (hx.ext (by (repeat' (first | (with_reducible exact Below.refl _ _) | (with_reducible refine Below.mono (by assumption) ?_) | (with_reducible refine Below.trans ?_ (Below.mono (by assumption) ?_)) | (with_reducible refine Below.alloc ?_ ?_ _) | (with_reducible refine Below.drew ?_) | (with_reducible refine below_drewN ?_ _) | (with_reducible refine Below.setCell ?_ ?_ _) | (simp only [World.size_alloc, World.size_setCell, World.size_drew, size_drewN]; omega) | omega))))).mono ?_; rintro e w1 ⟨rfl, hb⟩; obtain ⟨hc, hf, hz, hs⟩ := bcell hb; (try simp only [World.size_alloc, World.size_setCell, World.size_drew, size_drewN] at hs); (first | have l0 := Nat.lt_of_lt_of_le l0 (show _ ≤ w1.heap.size by omega) | have l0 : w.heap.size < w1.heap.size := (by omega) | skip); (try have l0e := Nat.le_of_lt l0); (try have l0f := Nat.le_add_right_of_le (k := 1) l0e); (try have l1 := Nat.lt_of_lt_of_le l1 (show _ ≤ w1.heap.size by omega)); (try have l1e := Nat.le_of_lt l1); (try have l1f := Nat.le_add_right_of_le (k := 1) l1e); (try have l2 := Nat.lt_of_lt_of_le l2 (show _ ≤ w1.heap.size by omega)); (try have l2e := Nat.le_of_lt l2); (try have l2f := Nat.le_add_right_of_le (k := 1) l2e); (try have l3 := Nat.lt_of_lt_of_le l3 (show _ ≤ w1.heap.size by omega)); (try have l3e := Nat.le_of_lt l3); (try have l3f := Nat.le_add_right_of_le (k := 1) l3e))
    all_goals go_ret
    all_goals exact Fresh.nil _ _ (by (repeat' (first | (with_reducible exact Below.refl _ _) | (with_reducible refine Below.mono (by assumption) ?_) | (with_reducible refine Below.trans ?_ (Below.mono (by assumption) ?_)) | (with_reducible refine Below.alloc ?_ ?_ _) | (with_reducible refine Below.drew ?_) | (with_reducible refine below_drewN ?_ _) | (with_reducible refine Below.setCell ?_ ?_ _) | (simp only [World.size_alloc, World.size_setCell, World.size_drew, size_drewN]; omega) | omega)))
  | true =>
    rw [hv] at C
    rw [if_pos rfl]
    have C := Lib.hid C
    have CD := fun w hx => done_c h S A c w hx hsm
    have hup := fun k x (hk : (dnT h h.length)[k]? = some x) => upto_take hk
    have hdl := dnT_len h h.length
    have hall := fun (L ys : List T3) f (hi : IInv h (dnT h h.length) L f) => IInv.all (ys := ys) hi
    generalize dnT h h.length = D at CD hup hdl hall
    have CD := Lib.hid CD
    have HU := Lib.hid hup
    have HAll := Lib.hid hall
    have HX := Lib.hid hx
    have hmm := @run_makeMap Tryd.prog
    clear hup hall hv hx
    go_enter Tryd.func9, Tryd.ntmps9
    go_wp2_with (fail)
    go_at_call 31
    refine (C.out _ (HX.out.ext (by (repeat' (first | (with_reducible exact Below.refl _ _) | (with_reducible refine Below.mono (by assumption) ?_) | (with_reducible refine Below.trans ?_ (Below.mono (by assumption) ?_)) | (with_reducible refine Below.alloc ?_ ?_ _) | (with_reducible refine Below.drew ?_) | (with_reducible refine below_drewN ?_ _) | (with_reducible refine Below.setCell ?_ ?_ _) | (simp only [World.size_alloc, World.size_setCell, World.size_drew, size_drewN]; omega) | omega))))).mono ?_
    rintro e w1 ⟨rfl, hb⟩
    obtain ⟨hc, hf, hz, hs⟩ := bcell hb
    (try simp only [World.size_alloc, World.size_setCell, World.size_drew, size_drewN] at hs); (first | have l0 := Nat.lt_of_lt_of_le l0 (show _ ≤ w1.heap.size by omega) | have l0 : w.heap.size < w1.heap.size := (by omega) | skip); (try have l0e := Nat.le_of_lt l0); (try have l0f := Nat.le_add_right_of_le (k := 1) l0e); (try have l1 := Nat.lt_of_lt_of_le l1 (show _ ≤ w1.heap.size by omega)); (try have l1e := Nat.le_of_lt l1); (try have l1f := Nat.le_add_right_of_le (k := 1) l1e); (try have l2 := Nat.lt_of_lt_of_le l2 (show _ ≤ w1.heap.size by omega)); (try have l2e := Nat.le_of_lt l2); (try have l2f := Nat.le_add_right_of_le (k := 1) l2e); (try have l3 := Nat.lt_of_lt_of_le l3 (show _ ≤ w1.heap.size by omega)); (try have l3e := Nat.le_of_lt l3); (try have l3f := Nat.le_add_right_of_le (k := 1) l3e)
    have e1 : Ext w w1 := hb
    have z1 := e1.size
    clear hc hf hz hs hb
    go_wp2_with (fail)
    go_at_call 32
    clear hmm
    have hO : Own3 (w1.alloc (.cells #[] 29)) w1.heap.size 29 (.slice (some ⟨w1.heap.size, 0, none⟩) 0 0) [] := Own3.made w1 #[] 0 rfl (Nat.le_refl _) (by omega) rfl
    have hM : MapF (fun k : Int => Value.int .i64 k) ((w1.alloc (.cells #[] 29)).alloc (.map #[] 0)) (w1.heap.size + 1) (fun _ => none) 0 := by
      have := MapF.made (ek := fun k : Int => Value.int .i64 k) (w1.alloc (.cells #[] 29))
      simpa using this
    have hO2 := hO.ext (show Ext (w1.alloc (.cells #[] 29)) ((w1.alloc (.cells #[] 29)).alloc (.map #[] 0)) from by (repeat' (first | (with_reducible exact Below.refl _ _) | (with_reducible refine Below.mono (by assumption) ?_) | (with_reducible refine Below.trans ?_ (Below.mono (by assumption) ?_)) | (with_reducible refine Below.alloc ?_ ?_ _) | (with_reducible refine Below.drew ?_) | (with_reducible refine below_drewN ?_ _) | (with_reducible refine Below.setCell ?_ ?_ _) | (simp only [World.size_alloc, World.size_setCell, World.size_drew, size_drewN]; omega) | omega)))
    have e2 : Ext w1 ((w1.alloc (.cells #[] 29)).alloc (.map #[] 0)) := by (repeat' (first | (with_reducible exact Below.refl _ _) | (with_reducible refine Below.mono (by assumption) ?_) | (with_reducible refine Below.trans ?_ (Below.mono (by assumption) ?_)) | (with_reducible refine Below.alloc ?_ ?_ _) | (with_reducible refine Below.drew ?_) | (with_reducible refine below_drewN ?_ _) | (with_reducible refine Below.setCell ?_ ?_ _) | (simp only [World.size_alloc, World.size_setCell, World.size_drew, size_drewN]; omega) | omega))
    refine (CD.out _ (HX.out.ext (e1.tr e2))).mono ?_
    rintro e w3 ⟨A3, c3, rfl, hD, hfD, hb⟩
    have hown := hO2.ext hb
    have hmap := hM.ext hb
    have hE3 := (e1.tr e2).tr hb
    have hD3 := hD.within_hi
    have zz2 : w1.heap.size + 2 ≤ w3.heap.size := by have := hb.size; simpa using this
    simp only [World.size_alloc] at hD3
    have hoff : Off (.slice (some ⟨w1.heap.size, 0, none⟩) 0 0) (w1.heap.size + 1 + 1) w3.heap.size := fun g hg => by
      simp only [Value.ownBlock] at hg
      cases hg
      omega
    have H0 := Lib.hid (show Own3 w3 w1.heap.size 29 (.slice (some ⟨w1.heap.size, 0, none⟩) 0 0) [] ∧ MapF (fun k : Int => Value.int .i64 k) w3 (w1.heap.size + 1) (fun _ => none) 0 ∧ Ext w w3 ∧ Ints (fun b => w1.heap.size + 1 + 1 ≤ b ∧ b < w3.heap.size) w3 A3 D ∧ Off (.slice (some ⟨w1.heap.size, 0, none⟩) 0 0) (w1.heap.size + 1 + 1) w3.heap.size from ⟨hown, hmap, hE3, hD3, hoff⟩)
    clear hO hM hO2 e2 hD hfD hb hown hmap hE3 hD3 hoff
    go_wp2
    go_loopw [3, 17] (fun v i wr => ∃ (k n : Nat) (L : List T3) (f : Int → Option Value), k ≤ D.length ∧ i = .int .i64 k ∧ IInv h (D.take k) L f ∧ Own3 wr w1.heap.size 29 v L ∧ MapF (fun k : Int => Value.int .i64 k) wr (w1.heap.size + 1) f n ∧ n ≤ k ∧ (∃ g, v.ownBlock = some g) ∧ Ext w wr ∧ Ints (fun b => w1.heap.size + 1 + 1 ≤ b ∧ b < w3.heap.size) wr A3 D ∧ Off v (w1.heap.size + 1 + 1) w3.heap.size ∧ w3.heap.size ≤ wr.heap.size) (fun _ i _ => D.length - (intOf i).toNat)
    case atStart => exact ⟨0, 0, [], _, Nat.zero_le _, rfl, IInv.start h, H0.out.1, H0.out.2.1, Nat.le_refl _, ⟨_, rfl⟩, H0.out.2.2.1, H0.out.2.2.2.1, H0.out.2.2.2.2, Nat.le_refl _⟩
    case round =>
      obtain ⟨k, n, L, f, hk, rfl, hinv, hown, hmap, hnk, hblk, hE, hD, hoff, hz3⟩ := hrel
      clear H0
      have hLl := hinv.2.2.1
      rw [List.length_take] at hLl
      have HInv := Lib.hid hinv
      have HO := Lib.hid hown
      have HMp := Lib.hid hmap
      have HB := Lib.hid hblk
      have HE := Lib.hid hE
      have HOf := Lib.hid hoff
      have HDi := Lib.hid hD
      have hzE := hE.size
      clear hinv hown hmap hblk hoff
      by_cases hlt : k < D.length
      · obtain ⟨x, bd, offd, hxk, rfl, _, hbd, cd⟩ := hD.at_ hlt
        obtain ⟨m, t, rfl, hmt, hmd, hupt⟩ := HU.out k x hxk
        have hml := (List.getElem?_eq_some_iff.1 hmt).1
        obtain ⟨s, ops, d, A', cap, b, off, hxm, rfl, _, hb0, hOp, c0, c1, c2⟩ := (HX.out.ext hE).at_ hml
        rw [hmt] at hxm
        cases hxm
        have htk : D.take (k + 1) = D.take k ++ [(m : Int)] := by rw [List.take_add_one, hxk]; rfl
        have HT := Lib.hid htk
        have HUp := Lib.hid hupt
        have HMt := Lib.hid hmt
        have HMd := Lib.hid hmd
        clear htk hupt hmt hmd hxk hD hE
        cases hfs : f s with
        | none =>
          have hni := HInv.out.none HUp.out HMt.out hfs
          rw [← HT.out] at hni
          have HNI := Lib.hid hni
          have HFS := Lib.hid hfs
          clear hni hfs
          go_wp2_with (first
            | (at_lookup; refine wpList_lookF _ rfl _ _ 52 true rfl Tryd.underlying52 (int_keylaw Tryd.underlying3) (z := .int .i64 0) (fun W => Tryd.zeroValue3 W) _ f n rfl (HMp.out.ext (by (repeat' (first | (with_reducible exact Below.refl _ _) | (with_reducible refine Below.mono (by assumption) ?_) | (with_reducible refine Below.trans ?_ (Below.mono (by assumption) ?_)) | (with_reducible refine Below.alloc ?_ ?_ _) | (with_reducible refine Below.drew ?_) | (with_reducible refine below_drewN ?_ _) | (with_reducible refine Below.setCell ?_ ?_ _) | (simp only [World.size_alloc, World.size_setCell, World.size_drew, size_drewN]; omega) | omega)))) s rfl ?_; rw [HFS.out])
            | (at_mapUpdate; refine wpList_putF _ rfl _ _ _ 52 rfl Tryd.underlying52 (int_keylaw Tryd.underlying3) _ _ _ rfl (HMp.out.ext (by (repeat' (first | (with_reducible exact Below.refl _ _) | (with_reducible refine Below.mono (by assumption) ?_) | (with_reducible refine Below.trans ?_ (Below.mono (by assumption) ?_)) | (with_reducible refine Below.alloc ?_ ?_ _) | (with_reducible refine Below.drew ?_) | (with_reducible refine below_drewN ?_ _) | (with_reducible refine Below.setCell ?_ ?_ _) | (simp only [World.size_alloc, World.size_setCell, World.size_drew, size_drewN]; omega) | omega)))) s (.int .i64 (m : Int)) rfl rfl ?_))
          intro w2 hmap2 hgrow2
          have hown2 := HO.out.grown hgrow2 (HO.out.ne_map HMp.out)
          have hE2 := HE.out.grown hgrow2 HE.out.size (fun g hg => by cases hg; omega)
          have hD2 := HDi.out.grown hgrow2 (fun b hb _ he => by have := Option.some.inj he; omega)
          have hsz2 := hgrow2.size
          have HF := Lib.hid (show _ ∧ _ ∧ _ ∧ _ from ⟨hown2, hE2, hD2, hmap2⟩)
          clear hown2 hE2 hD2 hmap2 hgrow2
          go_wp2
          exact ⟨⟨k + 1, n + 1, L, _, by omega, by go_num, HNI.out, HF.out.1, HF.out.2.2.2, by omega, HB.out, HF.out.2.1, HF.out.2.2.1, HOf.out, by omega⟩, by simp [intOf]; omega⟩
        | some v0 =>
          obtain ⟨a0, rfl, hni⟩ := HInv.out.one HUp.out HMt.out HMd.out hfs
          rw [← HT.out] at hni
          have HNI := Lib.hid hni
          have HFS := Lib.hid hfs
          clear hni hfs
          go_wp2_with (first
            | (at_lookup; refine wpList_lookF _ rfl _ _ 52 true rfl Tryd.underlying52 (int_keylaw Tryd.underlying3) (z := .int .i64 0) (fun W => Tryd.zeroValue3 W) _ f n rfl (HMp.out.ext (by (repeat' (first | (with_reducible exact Below.refl _ _) | (with_reducible refine Below.mono (by assumption) ?_) | (with_reducible refine Below.trans ?_ (Below.mono (by assumption) ?_)) | (with_reducible refine Below.alloc ?_ ?_ _) | (with_reducible refine Below.drew ?_) | (with_reducible refine below_drewN ?_ _) | (with_reducible refine Below.setCell ?_ ?_ _) | (simp only [World.size_alloc, World.size_setCell, World.size_drew, size_drewN]; omega) | omega)))) s rfl ?_; rw [HFS.out])
            | (at_builtin; refine wpList_append3_at _ rfl _ _ 25 rfl w1.heap.size 29 Tryd.underlying25 infoEdgeS rfl _ L rfl (HO.out.ext (by (repeat' (first | (with_reducible exact Below.refl _ _) | (with_reducible refine Below.mono (by assumption) ?_) | (with_reducible refine Below.trans ?_ (Below.mono (by assumption) ?_)) | (with_reducible refine Below.alloc ?_ ?_ _) | (with_reducible refine Below.drew ?_) | (with_reducible refine below_drewN ?_ _) | (with_reducible refine Below.setCell ?_ ?_ _) | (simp only [World.size_alloc, World.size_setCell, World.size_drew, size_drewN]; omega) | omega)))) _ a0 m 4 rfl ?_ ?_ ?_ ?_ ?_ ?_))
          all_goals try (first | omega | (simp only [World.size_alloc]; omega) | (go_simp; done))
          intro v' w' hown' hgrow hv'
          have ea : Ext wr (wr.alloc (.cells #[.int .i64 a0, .int .i64 m, .int .i64 4] 29)) := by (repeat' (first | (with_reducible exact Below.refl _ _) | (with_reducible refine Below.mono (by assumption) ?_) | (with_reducible refine Below.trans ?_ (Below.mono (by assumption) ?_)) | (with_reducible refine Below.alloc ?_ ?_ _) | (with_reducible refine Below.drew ?_) | (with_reducible refine below_drewN ?_ _) | (with_reducible refine Below.setCell ?_ ?_ _) | (simp only [World.size_alloc, World.size_setCell, World.size_drew, size_drewN]; omega) | omega))
          have hmap' := (HMp.out.ext ea).grown hgrow ((HO.out.ext ea).ne_map (HMp.out.ext ea))
          have hE' : Ext w w' := Below.grown (HE.out.tr ea) hgrow (HE.out.tr ea).size (fun g hg => by have := own3_lt HO.out g hg; omega)
          have hD' := (HDi.out.ext ea).off hgrow HOf.out
          have hoff' := HOf.out.step hv' (by first | omega | (simp only [World.size_alloc]; omega))
          have hblk' := blk_some HB.out hv'
          have hsz' : w3.heap.size ≤ w'.heap.size := by have := hgrow.size; (try simp only [World.size_alloc] at this); omega
          obtain ⟨s', ops', d', A2, cap2, b2, off2, hxm2, he2, _, hb02, hOp2, c02, c12, c22⟩ := (HX.out.ext hE').at_ hml
          rw [HMt.out] at hxm2
          cases hxm2
          simp only [Option.some.injEq, Addr.mk.injEq] at he2
          obtain ⟨rfl, rfl, _⟩ := he2
          have HF' := Lib.hid (show _ ∧ _ ∧ _ ∧ _ ∧ _ ∧ _ from ⟨hown', hmap', hE', hD', hoff', hblk'⟩)
          clear hown' hmap' hE' hD' hoff' hblk' hgrow hv' ea c0 c1 c2 cd HO HMp HDi HOf HB HE hOp2 c12 c22
          go_wp2_with (at_mapUpdate; refine wpList_putF _ rfl _ _ _ 52 rfl Tryd.underlying52 (int_keylaw Tryd.underlying3) _ _ _ rfl (HF'.out.2.1.ext (by (repeat' (first | (with_reducible exact Below.refl _ _) | (with_reducible refine Below.mono (by assumption) ?_) | (with_reducible refine Below.trans ?_ (Below.mono (by assumption) ?_)) | (with_reducible refine Below.alloc ?_ ?_ _) | (with_reducible refine Below.drew ?_) | (with_reducible refine below_drewN ?_ _) | (with_reducible refine Below.setCell ?_ ?_ _) | (simp only [World.size_alloc, World.size_setCell, World.size_drew, size_drewN]; omega) | omega)))) s (.int .i64 (m : Int)) rfl rfl ?_)
          intro w2 hmap2 hgrow2
          have hown2 := HF'.out.1.grown hgrow2 (HF'.out.1.ne_map HF'.out.2.1)
          have hE2 := HF'.out.2.2.1.grown hgrow2 HF'.out.2.2.1.size (fun g hg => by cases hg; omega)
          have hD2 := HF'.out.2.2.2.1.grown hgrow2 (fun b hb _ he => by have := Option.some.inj he; omega)
          have hsz2 := hgrow2.size
          have HF := Lib.hid (show _ ∧ _ ∧ _ ∧ _ from ⟨hown2, hE2, hD2, hmap2⟩)
          clear hown2 hE2 hD2 hmap2 hgrow2
          go_wp2
          exact ⟨⟨k + 1, n + 1, L ++ [⟨a0, m, 4⟩], _, by omega, by go_num, HNI.out, HF.out.1, HF.out.2.2.2, by omega, HF'.out.2.2.2.2.2, HF.out.2.1, HF.out.2.2.1, HF'.out.2.2.2.2.1, by omega⟩, by simp [intOf]; omega⟩
      · obtain rfl : k = D.length := by omega
        have hinv := HInv.out
        rw [List.take_length] at hinv
        have CS := fun w hO hB => sortedE_c L w1.heap.size _ w hO HB.out hB (by omega) hinv.1
        have CS := Lib.hid CS
        have HI2 := Lib.hid hinv
        clear hinv hD hE
        go_wp2_with (fail)
        go_at_call 33
        refine (CS.out _ (HO.out.ext (by (repeat' (first | (with_reducible exact Below.refl _ _) | (with_reducible refine Below.mono (by assumption) ?_) | (with_reducible refine Below.trans ?_ (Below.mono (by assumption) ?_)) | (with_reducible refine Below.alloc ?_ ?_ _) | (with_reducible refine Below.drew ?_) | (with_reducible refine below_drewN ?_ _) | (with_reducible refine Below.setCell ?_ ?_ _) | (simp only [World.size_alloc, World.size_setCell, World.size_drew, size_drewN]; omega) | omega)))) (by omega)).mono ?_
        rintro e w5 ⟨ys, A5, c5, hp, hsr, rfl, hA5, hf5, hB5⟩
        obtain rfl : ys = sesV h := HAll.out L ys f HI2.out hp hsr
        have hE5 : Ext w w5 := HE.out.trans (hB5.mono (by omega))
        have HR := Lib.hid (show Fresh (sesV h) w (.returned (.slice A5 (sesV h).length c5)) w5 from ⟨A5, c5, rfl, hA5.mono (fun b h _ => Nat.le_trans z1 h) (fun _ _ h => h), (fun a ha => by have := hf5 a ha; exact ⟨by omega, this.2⟩), hE5⟩)
        clear hp hsr hA5 hf5 hB5 hE5
        go_wp2
        go_ret
        exact HR.out
set_option maxHeartbeats 4000000 in
theorem specSessionEdges_c (h : List TxnT) (S : Nat → Prop) (A : Option Addr) (c : Nat) (w : World) (hx : Txns S w A h) (hsm : Small h) :
    Calls Tryd.prog 11 #[.slice A h.length c] w (Fresh (if histv h = true then sesV h else []) w) := by
  have C := fun w hx => specHistoryValid_c h S A c w hx hsm
  have hn := hsm.len
  cases hv : histv h with
  | false =>
    rw [hv] at C
    rw [if_neg (by simp)]
    have C := Lib.hid C
    go_enter Tryd.func11, Tryd.ntmps11
    go_wp2
    have hO : Own3 (w.alloc (.cells #[] 29)) w.heap.size 29 (.slice (some ⟨w.heap.size, 0, none⟩) 0 0) [] := Own3.made w #[] 0 rfl (Nat.le_refl _) (by omega) rfl
    go_loopw [3, 4, 5] (fun v i _ wr => i = .int .i64 0 ∧ Own3 wr w.heap.size 29 v [] ∧ Ext w wr) (fun _ _ _ _ => 0)
    case atStart => exact ⟨rfl, hO, by (repeat' (first | (with_reducible exact Below.refl _ _) | (with_reducible refine Below.mono (by assumption) ?_) | (with_reducible refine Below.trans ?_ (Below.mono (by assumption) ?_)) | (with_reducible refine Below.alloc ?_ ?_ _) | (with_reducible refine Below.drew ?_) | (with_reducible refine below_drewN ?_ _) | (with_reducible refine Below.setCell ?_ ?_ _) | (simp only [World.size_alloc, World.size_setCell, World.size_drew, size_drewN]; omega) | omega))⟩
    case round =>
      obtain ⟨rfl, hown, hE⟩ := hrel
      by_cases hlt : 0 < h.length
      · go_wp2_with (go_at_call 25; refine (C.out _ (hx.ext hE)).mono ?_; rintro e w1 ⟨rfl, hb⟩; obtain ⟨hc, hf, hz, hs⟩ := bcell hb; (try simp only [World.size_alloc, World.size_setCell, World.size_drew, size_drewN] at hs); (first | have l0 := Nat.lt_of_lt_of_le l0 (show _ ≤ w1.heap.size by omega) | have l0 : w.heap.size < w1.heap.size := (by omega) | skip); (try have l0e := Nat.le_of_lt l0); (try have l0f := Nat.le_add_right_of_le (k := 1) l0e); (try have l1 := Nat.lt_of_lt_of_le l1 (show _ ≤ w1.heap.size by omega)); (try have l1e := Nat.le_of_lt l1); (try have l1f := Nat.le_add_right_of_le (k := 1) l1e); (try have l2 := Nat.lt_of_lt_of_le l2 (show _ ≤ w1.heap.size by omega)); (try have l2e := Nat.le_of_lt l2); (try have l2f := Nat.le_add_right_of_le (k := 1) l2e); (try have l3 := Nat.lt_of_lt_of_le l3 (show _ ≤ w1.heap.size by omega)); (try have l3e := Nat.le_of_lt l3); (try have l3f := Nat.le_add_right_of_le (k := 1) l3e))
        all_goals go_ret
        all_goals exact (hown.ext hb).fresh (Nat.le_refl _) (hE.tr hb)
      · go_wp2
        go_ret
        exact hown.fresh (Nat.le_refl _) hE
  | true =>
    rw [hv] at C
    rw [if_pos rfl]
    have C := Lib.hid C
    have HX := Lib.hid hx
    clear hv hx
    go_enter Tryd.func11, Tryd.ntmps11
    go_wp2
    have hO := Lib.hid (show Own3 (w.alloc (.cells #[] 29)) w.heap.size 29 (.slice (some ⟨w.heap.size, 0, none⟩) 0 0) [] from Own3.made w #[] 0 rfl (Nat.le_refl _) (by omega) rfl)
    go_loopw [3, 4, 5] (fun v i _ wr => ∃ (k : Nat) (L : List T3), k ≤ h.length ∧ i = .int .i64 k ∧ SInv h k L ∧ Own3 wr w.heap.size 29 v L ∧ Ext w wr) (fun _ i _ _ => h.length - (intOf i).toNat)
    case atStart => exact ⟨0, [], Nat.zero_le _, rfl, SInv.start h, hO.out, by (repeat' (first | (with_reducible exact Below.refl _ _) | (with_reducible refine Below.mono (by assumption) ?_) | (with_reducible refine Below.trans ?_ (Below.mono (by assumption) ?_)) | (with_reducible refine Below.alloc ?_ ?_ _) | (with_reducible refine Below.drew ?_) | (with_reducible refine below_drewN ?_ _) | (with_reducible refine Below.setCell ?_ ?_ _) | (simp only [World.size_alloc, World.size_setCell, World.size_drew, size_drewN]; omega) | omega))⟩
    case round =>
      obtain ⟨k, L, hk, rfl, hS, hown, hE⟩ := hrel
      have hEz := hE.size
      have hLl := hS.2.2
      have HS := Lib.hid hS
      have HE := Lib.hid hE
      clear hO hS
      by_cases hlt : k < h.length
      · skip
        go_wp2_with (fail)
        go_at_call 25
        refine (C.out _ (HX.out.ext HE.out)).mono ?_
        rintro e w1 ⟨rfl, hb⟩
        obtain ⟨hc, hf, hz, hs⟩ := bcell hb
        (try simp only [World.size_alloc, World.size_setCell, World.size_drew, size_drewN] at hs); (first | have l0 := Nat.lt_of_lt_of_le l0 (show _ ≤ w1.heap.size by omega) | have l0 : w.heap.size < w1.heap.size := (by omega) | skip); (try have l0e := Nat.le_of_lt l0); (try have l0f := Nat.le_add_right_of_le (k := 1) l0e); (try have l1 := Nat.lt_of_lt_of_le l1 (show _ ≤ w1.heap.size by omega)); (try have l1e := Nat.le_of_lt l1); (try have l1f := Nat.le_add_right_of_le (k := 1) l1e); (try have l2 := Nat.lt_of_lt_of_le l2 (show _ ≤ w1.heap.size by omega)); (try have l2e := Nat.le_of_lt l2); (try have l2f := Nat.le_add_right_of_le (k := 1) l2e); (try have l3 := Nat.lt_of_lt_of_le l3 (show _ ≤ w1.heap.size by omega)); (try have l3e := Nat.le_of_lt l3); (try have l3f := Nat.le_add_right_of_le (k := 1) l3e)
        have e1 := hE.tr hb
        have hown1 := hown.ext hb
        have hz1 := e1.size
        have HE1 := Lib.hid e1
        have HO := Lib.hid hown1
        clear hown hown1 hc hf hz hs hb hE HE
        go_upto_block 1 with (fail)
        go_cut [3, 5] from 17 to 55 (fun v _ W => ∃ L', SInv h (k + 1) L' ∧ Own3 W w.heap.size 29 v L' ∧ Ext w W)
        case first =>
          go_wp2_with (fail)
          go_loopw [3, 5] (fun v' j W => ∃ q : Nat, v' = u3 ∧ k < q ∧ q ≤ h.length ∧ j = .int .i64 q ∧ (∀ c, k < c → c < q → ¬ sameS h k c) ∧ Ext w1 W) (fun _ j _ => h.length - (intOf j).toNat)
          case atStart => exact ⟨k + 1, rfl, by omega, by omega, by go_num, (fun c _ _ => by omega), Below.refl _ _⟩
          case round =>
            obtain ⟨q, rfl, hkq, hq, rfl, hno, hEi⟩ := hrel
            have HNo := Lib.hid hno
            have HEi := Lib.hid hEi
            have HEw := Lib.hid (HE1.out.tr hEi)
            clear hno hEi
            obtain ⟨s, ops, d, A', cap, b, off, hxk, rfl, _, hb0, _, c0, c1, c2⟩ := (HX.out.ext HEw.out).at_ hlt
            have HXk := Lib.hid hxk
            clear hxk
            have hfin : ∀ W, (∀ b, ¬ Adj h k b) → Ext w W → Own3 W w.heap.size 29 u3 L → ∃ L', SInv h (k + 1) L' ∧ Own3 W w.heap.size 29 u3 L' ∧ Ext w W := fun W hn hE hO => ⟨L, HS.out.none hn, hO, hE⟩
            have HFin := Lib.hid hfin
            clear hfin
            by_cases hlt2 : q < h.length
            · cases d with
              | false =>
                have hnone : ∀ b, ¬ Adj h k b := fun b hA => by
                  obtain ⟨t, u, h1, _, h3, _⟩ := hA.2.1
                  rw [HXk.out] at h1
                  cases h1
                  cases h3
                have HNone := Lib.hid hnone
                clear hnone
                go_wp2
                go_meet
                exact HFin.out _ HNone.out HEw.out (HO.out.ext HEi.out)
              | true =>
                obtain ⟨s2, ops2, d2, A2, cap2, b2, off2, hxq, he2, _, hb2, _, d0, d1, d2'⟩ := (HX.out.ext HEw.out).at_ hlt2
                simp only [Option.some.injEq, Addr.mk.injEq] at he2
                obtain ⟨rfl, rfl, _⟩ := he2
                have HXq := Lib.hid hxq
                clear hxq
                cases d2 with
                | false =>
                  have hns : ¬ sameS h k q := by
                    rintro ⟨t, u, _, h2, _, h4, _⟩
                    rw [HXq.out] at h2
                    cases h2
                    cases h4
                  have hno2 : ∀ c, k < c → c < q + 1 → ¬ sameS h k c := fun c h1 h2 => by
                    rcases Nat.lt_or_ge c q with h3 | h3
                    · exact HNo.out c h1 h3
                    · obtain rfl : c = q := by omega
                      exact hns
                  have HNo2 := Lib.hid hno2
                  clear hno2 hns
                  go_upto_region 8 with (fail)
                  go_quiet (fail)
                  go_wp2
                  exact ⟨⟨q + 1, rfl, by omega, by omega, by go_num, HNo2.out, HEi.out.tr (by (repeat' (first | (with_reducible exact Below.refl _ _) | (with_reducible refine Below.mono (by assumption) ?_) | (with_reducible refine Below.trans ?_ (Below.mono (by assumption) ?_)) | (with_reducible refine Below.alloc ?_ ?_ _) | (with_reducible refine Below.drew ?_) | (with_reducible refine below_drewN ?_ _) | (with_reducible refine Below.setCell ?_ ?_ _) | (simp only [World.size_alloc, World.size_setCell, World.size_drew, size_drewN]; omega) | omega)))⟩, by simp [intOf]; omega⟩
                | true =>
                  by_cases hss : s2 = s
                  · subst hss
                    have hA : Adj h k q := ⟨hkq, ⟨_, _, HXk.out, HXq.out, rfl, rfl, rfl⟩, HNo.out⟩
                    have hone := HS.out.one hA
                    have HOne := Lib.hid hone
                    have hzw := HEw.out.size
                    clear hone hA
                    go_upto_region 8 with (fail)
                    go_quiet (fail)
                    go_wp2_with (at_builtin; refine wpList_append3_at _ rfl _ _ 25 rfl w.heap.size 29 Tryd.underlying25 infoEdgeS rfl _ L rfl ((HO.out.ext HEi.out).ext (by (repeat' (first | (with_reducible exact Below.refl _ _) | (with_reducible refine Below.mono (by assumption) ?_) | (with_reducible refine Below.trans ?_ (Below.mono (by assumption) ?_)) | (with_reducible refine Below.alloc ?_ ?_ _) | (with_reducible refine Below.drew ?_) | (with_reducible refine below_drewN ?_ _) | (with_reducible refine Below.setCell ?_ ?_ _) | (simp only [World.size_alloc, World.size_setCell, World.size_drew, size_drewN]; omega) | omega)))) _ k q 4 rfl ((lit_at _ _ _ 0).trans rfl) ((lit_at _ _ _ 1).trans rfl) ((lit_at _ _ _ 2).trans rfl) ?_ ?_ ?_)
                    all_goals try (first | omega | (simp only [World.size_alloc, size_drewN]; omega) | (go_simp; done))
                    intro v' w' hown' hgrow hv'
                    have ed : Ext wr ((wr.drewN nq).alloc (.cells #[.int .i64 k, .int .i64 q, .int .i64 4] 29)) := by (repeat' (first | (with_reducible exact Below.refl _ _) | (with_reducible refine Below.mono (by assumption) ?_) | (with_reducible refine Below.trans ?_ (Below.mono (by assumption) ?_)) | (with_reducible refine Below.alloc ?_ ?_ _) | (with_reducible refine Below.drew ?_) | (with_reducible refine below_drewN ?_ _) | (with_reducible refine Below.setCell ?_ ?_ _) | (simp only [World.size_alloc, World.size_setCell, World.size_drew, size_drewN]; omega) | omega))
                    have hE' : Ext w w' := Below.grown (HEw.out.tr ed) hgrow (HEw.out.tr ed).size (fun g hg => (own3_lt HO.out g hg).1)
                    have HF := Lib.hid (show _ ∧ _ from ⟨hown', hE'⟩)
                    clear hown' hE' hgrow hv' ed
                    go_wp2
                    go_meet
                    exact ⟨_, HOne.out, HF.out.1, HF.out.2⟩
                  · have hns : ¬ sameS h k q := by
                      rintro ⟨t, u, h1, h2, _, _, h5⟩
                      rw [HXk.out] at h1
                      rw [HXq.out] at h2
                      cases h1
                      cases h2
                      exact hss h5.symm
                    have hno2 : ∀ c, k < c → c < q + 1 → ¬ sameS h k c := fun c h1 h2 => by
                      rcases Nat.lt_or_ge c q with h3 | h3
                      · exact HNo.out c h1 h3
                      · obtain rfl : c = q := by omega
                        exact hns
                    have HNo2 := Lib.hid hno2
                    have hse : (s2 == s) = false := by simpa using hss
                    clear hno2 hns
                    go_upto_region 8 with (fail)
                    go_quiet (fail)
                    go_wp2
                    exact ⟨⟨q + 1, rfl, by omega, by omega, by go_num, HNo2.out, HEi.out.tr (by (repeat' (first | (with_reducible exact Below.refl _ _) | (with_reducible refine Below.mono (by assumption) ?_) | (with_reducible refine Below.trans ?_ (Below.mono (by assumption) ?_)) | (with_reducible refine Below.alloc ?_ ?_ _) | (with_reducible refine Below.drew ?_) | (with_reducible refine below_drewN ?_ _) | (with_reducible refine Below.setCell ?_ ?_ _) | (simp only [World.size_alloc, World.size_setCell, World.size_drew, size_drewN]; omega) | omega)))⟩, by simp [intOf]; omega⟩
            · obtain rfl : q = h.length := by omega
              have hnone : ∀ b, ¬ Adj h k b := fun b hA => HNo.out b hA.1 (adj_lt hA).2 hA.2.1
              have HNone := Lib.hid hnone
              clear hnone
              go_wp2
              go_meet
              exact HFin.out _ HNone.out HEw.out (HO.out.ext HEi.out)
        case rest =>
          obtain ⟨L', hS', hO', hE'⟩ := hcut
          have HR := Lib.hid (show _ ∧ _ ∧ _ from ⟨hS', hO', hE'⟩)
          clear hS' hO' hE'
          go_wp2
          exact ⟨⟨k + 1, L', by omega, by go_num, HR.out.1, HR.out.2.1, HR.out.2.2⟩, by simp [intOf]; omega⟩
      · obtain rfl : k = h.length := by omega
        have hS := HS.out
        have hall := hS.all
        rw [hall] at hown
        have HF := Lib.hid (hown.fresh (Nat.le_refl _) HE.out)
        clear hS hall hown hE
        go_wp2
        go_ret
        exact HF.out
end Go.Proofs.YtdohbmegkkkchaaDoor
