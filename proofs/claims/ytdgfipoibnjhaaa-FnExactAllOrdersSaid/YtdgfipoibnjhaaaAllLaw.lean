/-
  For every history, the program's AllOrders returns what the reference's returns, in memory of its own, and leaves its argument as it was. No conditions.
-/
import Derived.Test.YtdgfipoibnjhaaaLaw
import Derived.Test.YtdgfipoibnjhaaaAllL
import Derived.Test.YtdgfipoibnjhaaaAllS
import Derived.Test.YtdgfipoibnjhaaaMarkZ
import Derived.OpenShut
import Derived.Deep.RegionWith
namespace Go.Proofs.Ytdgfipoibnjhaaa
set_option linter.unusedSimpArgs false
set_option linter.unusedVariables false
set_option maxRecDepth 100000
open Go.ChangeShapes Go.WideShapes Go.ChangeAt Go.RowKit Go.Joins

theorem any_txns2 {So Si : Nat → Prop} {w : World} {A : Option Addr} {xs : List TxnT} (h : Txns2 So Si w A xs) : Txns Any w A xs := h.txns (fun _ _ _ => trivial) (fun _ _ _ => trivial)
/-- lists of rows that are a call's own -/
structure RX (lo : Nat) (W : World) (A : Option Addr) (es : List PX) : Prop where
  hx : HasX es
  out : ∀ (i : Nat) (p : PX), es[i]? = some p → ∃ g, A = some ⟨g, 0, none⟩ ∧ lo ≤ g ∧ g < W.heap.size ∧ W.cell? ⟨g, i, none⟩ = some p.cell ∧ InX W (fun b => lo ≤ b) p
  leaf : LeafX W lo (A.map Addr.block) es
theorem RX.ext {lo : Nat} {W W' : World} {A : Option Addr} {es : List PX} (h : RX lo W A es) (hE : Ext W W') : RX lo W' A es := by
  refine ⟨h.hx, fun i p hp => ?_, h.leaf.ext hE⟩
  obtain ⟨g, h1, h2, h3, h4, h5⟩ := h.out i p hp
  exact ⟨g, h1, h2, Nat.lt_of_lt_of_le h3 hE.size, hE.keep h3 h4, h5.ext hE⟩
theorem RX.within {lo lo' hi : Nat} {W W' : World} {A : Option Addr} {es : List PX} (h : RX lo W A es) (hw : Within lo' hi W W') (hl : hi ≤ lo) : RX lo W' A es := by
  have hsf : ∀ b, lo ≤ b → Soft W b → Soft W' b := fun b hb hs => ⟨Nat.lt_of_lt_of_le hs.1 hw.size, fun o => by rw [World.frozen?_of_block (a := ⟨b, o, none⟩) (hw.block b hs.1 (.inr (by omega)))]; exact hs.2 o⟩
  refine ⟨h.hx, fun i p hp => ?_, ⟨h.leaf.nodup, fun b hb => ?_, fun p hp a ha => ?_⟩⟩
  · obtain ⟨g, h1, h2, h3, h4, h5⟩ := h.out i p hp
    exact ⟨g, h1, h2, Nat.lt_of_lt_of_le h3 hw.size, (World.cell?_of_block (a := ⟨g, i, none⟩) (hw.block g h3 (.inr (by omega)))).trans h4, h5.keep hw.size (fun a ha hlt => World.cell?_of_block (hw.block a.block hlt (.inr (by have ha : lo ≤ a.block := ha; omega))))⟩
  · obtain ⟨a1, a2, a3⟩ := h.leaf.soft b hb
    exact ⟨a1, hsf b a1 a2, a3⟩
  · obtain ⟨a1, a2⟩ := h.leaf.inner p hp a ha
    exact ⟨Nat.lt_of_lt_of_le a1 hw.size, a2⟩
theorem RX.rows {lo : Nat} {W : World} {A : Option Addr} {es : List PX} (h : RX lo W A es) : Rows3 Any W A (es.map PX.rows) := by
  intro i x hx
  rw [List.getElem?_map] at hx
  obtain ⟨p, hp, rfl⟩ := Option.map_eq_some_iff.1 hx
  obtain ⟨g, h1, h2, h3, h4, h5⟩ := h.out i p hp
  refine ⟨g, 0, [p.cell], h1, trivial, h3, rfl, ⟨p.A, p.c, ?_, SlAt.mono h5.rows2 (fun _ _ _ => trivial) (mono_row (fun _ _ _ => trivial))⟩, fun j u hu => ?_⟩
  · unfold PX.cell PX.rows
    rw [List.length_map]
  · match j, hu with
    | 0, hu => cases hu; rw [show 0 + i * 1 + 0 = i by omega]; exact h4
    | j + 1, hu => simp at hu
theorem RX.inz {lo : Nat} {W : World} {A : Option Addr} {es : List PX} (h : RX lo W A es) : InZ W A es := by
  refine ⟨fun i p hp => ?_, fun p hp j r hr => ?_⟩
  · obtain ⟨g, h1, h2, h3, h4, h5⟩ := h.out i p hp
    refine ⟨g, h1, h3, fun hm => ?_, h4⟩
    exact (h.leaf.soft g hm).2.2 (by rw [h1]; rfl)
  · obtain ⟨i, hi, e⟩ := List.mem_iff_getElem.1 hp
    obtain ⟨g0, _, _, _, _, h5⟩ := h.out i p (List.getElem?_eq_some_iff.2 ⟨hi, e⟩)
    obtain ⟨g, off, k1, k2, k3, k4, k5⟩ := h5 j r hr
    obtain ⟨gr, hgr⟩ := h.hx p hp r (List.mem_of_getElem? hr)
    exact ⟨g, off, gr, k1, k3, (h.leaf.inner p hp _ k1).2, k4, hgr⟩
theorem RX.row {lo : Nat} {W : World} {A : Option Addr} {es : List PX} (h : RX lo W A es) : ∀ (i : Nat) (p : PX) (j : Nat) (r : PR) (g : Nat), es[i]? = some p → p.ps[j]? = some r → r.A = some ⟨g, 0, none⟩ → RowIs W g r.xs := fun i p j r g h1 h2 h3 => by
  obtain ⟨g0, _, _, _, _, h5⟩ := h.out i p h1
  obtain ⟨g', off, _, _, _, _, k5⟩ := h5 j r h2
  rw [h3] at k5
  exact RowIs.of k5
theorem FreshL.rx {X : List (List (List Int))} {w : World} {e : Ending} {w' : World} (h : FreshL X w e w') : ∃ (es : List PX) (A : Option Addr) (c : Nat), e = .returned (.slice A X.length c) ∧ es.map PX.rows = X ∧ RX w.heap.size w' A es ∧ Ext w w' := by
  obtain ⟨es, A, c, h1, h2, h3, h4, h5, h6⟩ := h
  exact ⟨es, A, c, by rw [← h2, List.length_map]; exact h1, h2, ⟨h3, h4, h5⟩, h6⟩
theorem mark3 (X : List (List (List Int))) (es : List PX) (lo : Nat) (A : Option Addr) (c : Nat) (w : World) (hm : es.map PX.rows = X) (h : RX lo w A es) (hl : SmallX X) :
    Calls Try.prog 11 #[.slice A X.length c, .int .i64 1] w fun e w' => e = .returned (.int .i64 (1 + (totX X : Nat))) ∧ (InZ w' A es ∧ Held w' es 1) ∧ Within lo w.heap.size w w' := by
  subst hm
  rw [List.length_map]
  refine (markIntSSS_c es A c w h.inz h.leaf.nodup (fun b hb => (h.leaf.soft b hb).2.1) h.row hl).mono ?_
  rintro e w' ⟨h1, h2, h3, h4⟩
  exact ⟨h1, ⟨h2, h3⟩, ⟨h4.os, h4.tape, h4.output, h4.size, fun k hk hn => h4.block k hk (fun hm => by have := (h.leaf.soft k hm).1; omega)⟩⟩
theorem held3 (X : List (List (List Int))) (es : List PX) (A : Option Addr) (c : Nat) (w : World) (hm : es.map PX.rows = X) (h : InZ w A es ∧ Held w es 1) (hl : SmallX X) :
    Calls Try.prog 12 #[.slice A X.length c, .int .i64 1] w fun e w' => e = .returned (.int .i64 (1 + (totX X : Nat))) ∧ w = w' := by
  subst hm
  rw [List.length_map]
  exact heldIntSSS_c es A c w h.1 h.2 hl
theorem all_smallX (h : List TxnT) : SmallX (allV h) := by
  refine ⟨Nat.le_trans (allV_len h) (by omega), ?_, fun R hR => all_small hR⟩
  have h1 := allV_len h
  have h2 : ∀ R ∈ allV h, tot R ≤ 54 := fun R hR => by
    have h3 := all_len3 hR
    have hb := all_row hR
    have : tot R ≤ 18 * R.length := by
      clear h3 hR
      induction R with
      | nil => simp [tot]
      | cons x xs ih =>
        have := hb x (by simp)
        have := ih (fun l hl => hb l (by simp [hl]))
        simp only [tot, List.map_cons, List.sum_cons, List.length_cons] at this ⊢
        omega
    omega
  have h3 : totX (allV h) ≤ 54 * (allV h).length := by
    generalize allV h = L at h2
    induction L with
    | nil => simp [totX]
    | cons x xs ih =>
      have := h2 x (by simp)
      have := ih (fun l hl => h2 l (by simp [hl]))
      simp only [totX, List.map_cons, List.sum_cons, List.length_cons] at this ⊢
      omega
  omega
set_option maxHeartbeats 8000000 in
theorem FnExactAllOrders_c (h : List TxnT) (A : Option Addr) (c : Nat) (w : World) (hx : Txns Any w A h) (wf : Law.wfL Law.wfTxn h) :
    Calls Try.prog 3 #[.slice A h.length c] w fun e w' => e = .returned (.bool true) ∧ Ext w w' := by
  have C := fun w hx => szTxnS_c h Any A c w hx wf.1 (fun t ht => (wf.2 t ht).2.1)
  go_enter Try.func3, Try.ntmps3
  go_wp2_with (go_at_call 4; refine (C _ hx).mono ?_; rintro e w1 ⟨r, rfl, (rfl | ⟨hr, hsm⟩), hb⟩; rotate_left)
  · have e1 : Ext w w1 := hb
    clear hb
    have CS := fun S A c w hx hcap => specAllOrders_c h S A c w hx hcap hsm
    have CI := fun S A c w hx => (implAllOrders_own h S A c w hx hsm).mono fun _ _ hh => hh.rx
    have hL : SmallX (allV h) := all_smallX h
    generalize allV h = L at CS CI hL
    have CS := Lib.hid CS
    have CI := Lib.hid CI
    have hLt : totX L ≤ 900000 := hL.2.1
    have hLl : L.length ≤ 1000 := hL.1
    go_wp2_with (fail)
    go_at_call 6
    refine (toTxnSN_c h _ _ _ _ (hx.ext e1) hsm).mono ?_
    rintro e w2 ⟨A2, rfl, hA2, hN2, hb⟩
    obtain ⟨hc, hf, hz, hs⟩ := bcell hb
    (try simp only [World.size_alloc, World.size_setCell, World.size_drew, size_drewN] at hs); (first | have l0 := Nat.lt_of_lt_of_le l0 (show _ ≤ w2.heap.size by omega) | have l0 : w.heap.size < w2.heap.size := (by omega) | skip); (try have l0e := Nat.le_of_lt l0); (try have l0f := Nat.le_add_right_of_le (k := 1) l0e); (try have l1 := Nat.lt_of_lt_of_le l1 (show _ ≤ w2.heap.size by omega)); (try have l1e := Nat.le_of_lt l1); (try have l1f := Nat.le_add_right_of_le (k := 1) l1e); (try have l2 := Nat.lt_of_lt_of_le l2 (show _ ≤ w2.heap.size by omega)); (try have l2e := Nat.le_of_lt l2); (try have l2f := Nat.le_add_right_of_le (k := 1) l2e); (try have l3 := Nat.lt_of_lt_of_le l3 (show _ ≤ w2.heap.size by omega)); (try have l3e := Nat.le_of_lt l3); (try have l3f := Nat.le_add_right_of_le (k := 1) l3e)
    have e2 := e1.tr hb
    go_wp2_with (fail)
    go_at_call 5
    refine (CS.out _ _ _ _ (any_txns2 hA2) hN2).mono ?_
    rintro e w3 ⟨A3, c3, rfl, hW, hb⟩
    obtain ⟨hc, hf, hz, hs⟩ := bcell hb
    (try simp only [World.size_alloc, World.size_setCell, World.size_drew, size_drewN] at hs); (first | have l0 := Nat.lt_of_lt_of_le l0 (show _ ≤ w3.heap.size by omega) | have l0 : w.heap.size < w3.heap.size := (by omega) | skip); (try have l0e := Nat.le_of_lt l0); (try have l0f := Nat.le_add_right_of_le (k := 1) l0e); (try have l1 := Nat.lt_of_lt_of_le l1 (show _ ≤ w3.heap.size by omega)); (try have l1e := Nat.le_of_lt l1); (try have l1f := Nat.le_add_right_of_le (k := 1) l1e); (try have l2 := Nat.lt_of_lt_of_le l2 (show _ ≤ w3.heap.size by omega)); (try have l2e := Nat.le_of_lt l2); (try have l2f := Nat.le_add_right_of_le (k := 1) l2e); (try have l3 := Nat.lt_of_lt_of_le l3 (show _ ≤ w3.heap.size by omega)); (try have l3e := Nat.le_of_lt l3); (try have l3f := Nat.le_add_right_of_le (k := 1) l3e)
    have e3 := e2.tr hb
    clear hA2 hN2
    go_wp2_with (fail)
    go_at_call 6
    refine (toTxnS2_c h _ _ _ _ (hx.ext e3) hsm).mono ?_
    rintro e w4 ⟨lim4, rfl, hA4, hb⟩
    obtain ⟨hc, hf, hz, hs⟩ := bcell hb
    (try simp only [World.size_alloc, World.size_setCell, World.size_drew, size_drewN] at hs); (first | have l0 := Nat.lt_of_lt_of_le l0 (show _ ≤ w4.heap.size by omega) | have l0 : w.heap.size < w4.heap.size := (by omega) | skip); (try have l0e := Nat.le_of_lt l0); (try have l0f := Nat.le_add_right_of_le (k := 1) l0e); (try have l1 := Nat.lt_of_lt_of_le l1 (show _ ≤ w4.heap.size by omega)); (try have l1e := Nat.le_of_lt l1); (try have l1f := Nat.le_add_right_of_le (k := 1) l1e); (try have l2 := Nat.lt_of_lt_of_le l2 (show _ ≤ w4.heap.size by omega)); (try have l2e := Nat.le_of_lt l2); (try have l2f := Nat.le_add_right_of_le (k := 1) l2e); (try have l3 := Nat.lt_of_lt_of_le l3 (show _ ≤ w4.heap.size by omega)); (try have l3e := Nat.le_of_lt l3); (try have l3f := Nat.le_add_right_of_le (k := 1) l3e)
    have e4 := e3.tr hb
    have d4 := hb
    have z34 := hb.size
    have hlim : lim4 h.length ≤ w4.heap.size := by obtain ⟨_, _, hq⟩ := hA4; exact hq.2.2.2.1
    go_wp2_with (fail)
    go_at_call 7
    refine (CI.out _ _ _ _ (any_txns2 hA4.txns)).mono ?_
    rintro e w5 ⟨es, A5, c5, rfl, hm5, hG, hb⟩
    obtain ⟨hc, hf, hz, hs⟩ := bcell hb
    (try simp only [World.size_alloc, World.size_setCell, World.size_drew, size_drewN] at hs); (first | have l0 := Nat.lt_of_lt_of_le l0 (show _ ≤ w5.heap.size by omega) | have l0 : w.heap.size < w5.heap.size := (by omega) | skip); (try have l0e := Nat.le_of_lt l0); (try have l0f := Nat.le_add_right_of_le (k := 1) l0e); (try have l1 := Nat.lt_of_lt_of_le l1 (show _ ≤ w5.heap.size by omega)); (try have l1e := Nat.le_of_lt l1); (try have l1f := Nat.le_add_right_of_le (k := 1) l1e); (try have l2 := Nat.lt_of_lt_of_le l2 (show _ ≤ w5.heap.size by omega)); (try have l2e := Nat.le_of_lt l2); (try have l2f := Nat.le_add_right_of_le (k := 1) l2e); (try have l3 := Nat.lt_of_lt_of_le l3 (show _ ≤ w5.heap.size by omega)); (try have l3e := Nat.le_of_lt l3); (try have l3f := Nat.le_add_right_of_le (k := 1) l3e)
    have HM5 := Lib.hid hm5
    clear hm5
    have d5 := d4.tr hb
    have hA5 := hA4.ext hb
    clear hA4
    go_wp2_with (fail)
    go_at_call 8
    refine (eqIntSSS_c L _ _ _ _ _ _ _ (by have := hG.rows; rw [HM5.out] at this; exact this) (hW.ext d5) hL).mono ?_
    rintro e w6 ⟨rfl, hb⟩
    obtain ⟨hc, hf, hz, hs⟩ := bcell hb
    (try simp only [World.size_alloc, World.size_setCell, World.size_drew, size_drewN] at hs); (first | have l0 := Nat.lt_of_lt_of_le l0 (show _ ≤ w6.heap.size by omega) | have l0 : w.heap.size < w6.heap.size := (by omega) | skip); (try have l0e := Nat.le_of_lt l0); (try have l0f := Nat.le_add_right_of_le (k := 1) l0e); (try have l1 := Nat.lt_of_lt_of_le l1 (show _ ≤ w6.heap.size by omega)); (try have l1e := Nat.le_of_lt l1); (try have l1f := Nat.le_add_right_of_le (k := 1) l1e); (try have l2 := Nat.lt_of_lt_of_le l2 (show _ ≤ w6.heap.size by omega)); (try have l2e := Nat.le_of_lt l2); (try have l2f := Nat.le_add_right_of_le (k := 1) l2e); (try have l3 := Nat.lt_of_lt_of_le l3 (show _ ≤ w6.heap.size by omega)); (try have l3e := Nat.le_of_lt l3); (try have l3f := Nat.le_add_right_of_le (k := 1) l3e)
    have d6 := d5.tr hb
    have hA6 := hA5.ext hb
    have hG6 := hG.ext hb
    clear hA5 hG
    go_wp2_with (fail)
    go_at_call 6
    refine (toTxnS2_c h _ _ _ _ (hx.ext (e3.tr d6)) hsm).mono ?_
    rintro e w7 ⟨lim7, rfl, hA7, hb⟩
    obtain ⟨hc, hf, hz, hs⟩ := bcell hb
    (try simp only [World.size_alloc, World.size_setCell, World.size_drew, size_drewN] at hs); (first | have l0 := Nat.lt_of_lt_of_le l0 (show _ ≤ w7.heap.size by omega) | have l0 : w.heap.size < w7.heap.size := (by omega) | skip); (try have l0e := Nat.le_of_lt l0); (try have l0f := Nat.le_add_right_of_le (k := 1) l0e); (try have l1 := Nat.lt_of_lt_of_le l1 (show _ ≤ w7.heap.size by omega)); (try have l1e := Nat.le_of_lt l1); (try have l1f := Nat.le_add_right_of_le (k := 1) l1e); (try have l2 := Nat.lt_of_lt_of_le l2 (show _ ≤ w7.heap.size by omega)); (try have l2e := Nat.le_of_lt l2); (try have l2f := Nat.le_add_right_of_le (k := 1) l2e); (try have l3 := Nat.lt_of_lt_of_le l3 (show _ ≤ w7.heap.size by omega)); (try have l3e := Nat.le_of_lt l3); (try have l3f := Nat.le_add_right_of_le (k := 1) l3e)
    have d7 := d6.tr hb
    have hG7 := hG6.ext hb
    have hA67 := hA6.ext hb
    clear hG6 hA6
    go_wp2_with (fail)
    go_at_call 9
    refine (eqTxnS_c h _ _ _ _ _ _ _ (any_txns2 hA67.txns) (any_txns2 hA7.txns) hsm).mono ?_
    rintro e w8 ⟨rfl, hb⟩
    obtain ⟨hc, hf, hz, hs⟩ := bcell hb
    (try simp only [World.size_alloc, World.size_setCell, World.size_drew, size_drewN] at hs); (first | have l0 := Nat.lt_of_lt_of_le l0 (show _ ≤ w8.heap.size by omega) | have l0 : w.heap.size < w8.heap.size := (by omega) | skip); (try have l0e := Nat.le_of_lt l0); (try have l0f := Nat.le_add_right_of_le (k := 1) l0e); (try have l1 := Nat.lt_of_lt_of_le l1 (show _ ≤ w8.heap.size by omega)); (try have l1e := Nat.le_of_lt l1); (try have l1f := Nat.le_add_right_of_le (k := 1) l1e); (try have l2 := Nat.lt_of_lt_of_le l2 (show _ ≤ w8.heap.size by omega)); (try have l2e := Nat.le_of_lt l2); (try have l2f := Nat.le_add_right_of_le (k := 1) l2e); (try have l3 := Nat.lt_of_lt_of_le l3 (show _ ≤ w8.heap.size by omega)); (try have l3e := Nat.le_of_lt l3); (try have l3f := Nat.le_add_right_of_le (k := 1) l3e)
    have d8 := d7.tr hb
    have hG8 := hG7.ext hb
    have hA8 := hA67.ext hb
    clear hG7 hA67 hA7
    go_wp2_with (fail)
    go_at_call 10
    refine (markTxnS_c h _ _ _ hA8 hsm).mono ?_
    rintro e w9 ⟨k9, rfl, hk9, _, hw9⟩
    have d9 : Ext w3 w9 := Within.old d8 hw9 (Nat.le_refl _)
    have hG9 := hG8.within hw9 hlim
    clear hA8 hG8 hw9 hc hf hz hs
    go_wp2_with (fail)
    go_at_call 8
    refine (eqIntSSS_c L _ _ _ _ _ _ _ (by have := hG9.rows; rw [HM5.out] at this; exact this) (hW.ext d9) hL).mono ?_
    rintro e w10 ⟨rfl, hb⟩
    obtain ⟨hc, hf, hz, hs⟩ := bcell hb
    (try simp only [World.size_alloc, World.size_setCell, World.size_drew, size_drewN] at hs); (first | have l0 := Nat.lt_of_lt_of_le l0 (show _ ≤ w10.heap.size by omega) | have l0 : w.heap.size < w10.heap.size := (by omega) | skip); (try have l0e := Nat.le_of_lt l0); (try have l0f := Nat.le_add_right_of_le (k := 1) l0e); (try have l1 := Nat.lt_of_lt_of_le l1 (show _ ≤ w10.heap.size by omega)); (try have l1e := Nat.le_of_lt l1); (try have l1f := Nat.le_add_right_of_le (k := 1) l1e); (try have l2 := Nat.lt_of_lt_of_le l2 (show _ ≤ w10.heap.size by omega)); (try have l2e := Nat.le_of_lt l2); (try have l2f := Nat.le_add_right_of_le (k := 1) l2e); (try have l3 := Nat.lt_of_lt_of_le l3 (show _ ≤ w10.heap.size by omega)); (try have l3e := Nat.le_of_lt l3); (try have l3f := Nat.le_add_right_of_le (k := 1) l3e)
    have d10 := d9.tr hb
    have hG10 := hG9.ext hb
    clear hG9
    go_wp2_with (fail)
    go_at_call 11
    refine (mark3 L es _ _ _ _ HM5.out hG10 hL).mono ?_
    rintro e w11 ⟨rfl, hM, hw11⟩
    have d11 : Ext w3 w11 := Within.old d10 hw11 z34
    clear hG10 hw11 hc hf hz hs
    have hne : (((1 : Int) + ((totX L : Nat) : Int)) != ((1 : Int) + ((totX L : Nat) : Int))) = false := by simp
    have hlo : ((1 : Int) + ((totX L : Nat) : Int) < 0) = False := by simp; omega
    go_wp2_with (fail)
    go_at_call 12
    refine (held3 L es _ _ _ HM5.out hM hL).mono ?_
    rintro e w' ⟨rfl, rfl⟩
    go_wp2_with (fail)
    go_at_call 6
    refine (toTxnS2_c h _ _ _ _ (hx.ext (e3.tr d11)) hsm).mono ?_
    rintro e w12 ⟨lim12, rfl, hA12, hb⟩
    obtain ⟨hc, hf, hz, hs⟩ := bcell hb
    (try simp only [World.size_alloc, World.size_setCell, World.size_drew, size_drewN] at hs); (first | have l0 := Nat.lt_of_lt_of_le l0 (show _ ≤ w12.heap.size by omega) | have l0 : w.heap.size < w12.heap.size := (by omega) | skip); (try have l0e := Nat.le_of_lt l0); (try have l0f := Nat.le_add_right_of_le (k := 1) l0e); (try have l1 := Nat.lt_of_lt_of_le l1 (show _ ≤ w12.heap.size by omega)); (try have l1e := Nat.le_of_lt l1); (try have l1f := Nat.le_add_right_of_le (k := 1) l1e); (try have l2 := Nat.lt_of_lt_of_le l2 (show _ ≤ w12.heap.size by omega)); (try have l2e := Nat.le_of_lt l2); (try have l2f := Nat.le_add_right_of_le (k := 1) l2e); (try have l3 := Nat.lt_of_lt_of_le l3 (show _ ≤ w12.heap.size by omega)); (try have l3e := Nat.le_of_lt l3); (try have l3f := Nat.le_add_right_of_le (k := 1) l3e)
    have d12 := d11.tr hb
    have hM12 := And.intro (hM.1.ext hb) (hM.2.ext hb)
    clear hM
    go_wp2_with (fail)
    go_at_call 7
    refine (CI.out _ _ _ _ (any_txns2 hA12.txns)).mono ?_
    rintro e w13 ⟨es13, A13, c13, rfl, hm13, hH, hb⟩
    obtain ⟨hc, hf, hz, hs⟩ := bcell hb
    (try simp only [World.size_alloc, World.size_setCell, World.size_drew, size_drewN] at hs); (first | have l0 := Nat.lt_of_lt_of_le l0 (show _ ≤ w13.heap.size by omega) | have l0 : w.heap.size < w13.heap.size := (by omega) | skip); (try have l0e := Nat.le_of_lt l0); (try have l0f := Nat.le_add_right_of_le (k := 1) l0e); (try have l1 := Nat.lt_of_lt_of_le l1 (show _ ≤ w13.heap.size by omega)); (try have l1e := Nat.le_of_lt l1); (try have l1f := Nat.le_add_right_of_le (k := 1) l1e); (try have l2 := Nat.lt_of_lt_of_le l2 (show _ ≤ w13.heap.size by omega)); (try have l2e := Nat.le_of_lt l2); (try have l2f := Nat.le_add_right_of_le (k := 1) l2e); (try have l3 := Nat.lt_of_lt_of_le l3 (show _ ≤ w13.heap.size by omega)); (try have l3e := Nat.le_of_lt l3); (try have l3f := Nat.le_add_right_of_le (k := 1) l3e)
    have HM13 := Lib.hid hm13
    clear hm13
    have d13 := d12.tr hb
    have hM13 := And.intro (hM12.1.ext hb) (hM12.2.ext hb)
    clear hM12 hA12
    go_wp2_with (fail)
    go_at_call 8
    refine (eqIntSSS_c L _ _ _ _ _ _ _ (by have := hH.rows; rw [HM13.out] at this; exact this) (hW.ext d13) hL).mono ?_
    rintro e w14 ⟨rfl, hb⟩
    obtain ⟨hc, hf, hz, hs⟩ := bcell hb
    (try simp only [World.size_alloc, World.size_setCell, World.size_drew, size_drewN] at hs); (first | have l0 := Nat.lt_of_lt_of_le l0 (show _ ≤ w14.heap.size by omega) | have l0 : w.heap.size < w14.heap.size := (by omega) | skip); (try have l0e := Nat.le_of_lt l0); (try have l0f := Nat.le_add_right_of_le (k := 1) l0e); (try have l1 := Nat.lt_of_lt_of_le l1 (show _ ≤ w14.heap.size by omega)); (try have l1e := Nat.le_of_lt l1); (try have l1f := Nat.le_add_right_of_le (k := 1) l1e); (try have l2 := Nat.lt_of_lt_of_le l2 (show _ ≤ w14.heap.size by omega)); (try have l2e := Nat.le_of_lt l2); (try have l2f := Nat.le_add_right_of_le (k := 1) l2e); (try have l3 := Nat.lt_of_lt_of_le l3 (show _ ≤ w14.heap.size by omega)); (try have l3e := Nat.le_of_lt l3); (try have l3f := Nat.le_add_right_of_le (k := 1) l3e)
    have d14 := d13.tr hb
    have hM14 := And.intro (hM13.1.ext hb) (hM13.2.ext hb)
    clear hM13 hH
    go_wp2_with (fail)
    go_at_call 12
    refine (held3 L es _ _ _ HM5.out hM14 hL).mono ?_
    rintro e w' ⟨rfl, rfl⟩
    go_wp2
    go_ret
    exact ⟨rfl, e3.tr d14⟩
  · go_ret
    exact ⟨rfl, by (repeat' (first | (with_reducible exact Below.refl _ _) | (with_reducible refine Below.mono (by assumption) ?_) | (with_reducible refine Below.trans ?_ (Below.mono (by assumption) ?_)) | (with_reducible refine Below.alloc ?_ ?_ _) | (with_reducible refine Below.drew ?_) | (with_reducible refine below_drewN ?_ _) | (with_reducible refine Below.setCell ?_ ?_ _) | (simp only [World.size_alloc, World.size_setCell, World.size_drew, size_drewN]; omega) | omega))⟩

set_option maxRecDepth 100000 in
theorem FnExactAllOrders_lifted (os : Os) (started : os.Started) (H : Type) (enc : TypeId × Value → H) :
    ReturnsInHanded {} Try.checked os 3 .any (Rows.fnExactAllOrdersSpec.pre6 enc Try.prog Try.f3 Rows.fnExactAllOrdersRow.domain false) (Rows.fnExactAllOrdersSpec.post enc Try.prog Try.f3 false true false false) := by
  refine returnsInHanded_of_change (C := Try.checked) Law.own started (by kernel_rfl) Try.func3
    (ChangeSpec.witness6 (enc := enc) (C := Try.checked) false ⟨#[], #[.slice none 0 0], []⟩ 8 (by kernel_rfl) (by kernel_rfl) (by kernel_rfl) (by kernel_rfl)) ?_
  intro W base args ds gs before hval0 hW _ _
  have hval : ∀ (j : Nat) t v, Try.f3.params[j]? = some t → args[j]? = some v → Value.okWide Try.prog W .any base t v := hval0
  have hW' := hW
  obtain ⟨p, q, hA0, hV, rfl, hfz, hnd⟩ := hW
  have hA : DataW.TrodAll enc Try.prog W 0 (fun _ => true) true Try.f3.params.toList args.toList ds p := hA0
  rw [Try.params3] at hA hval
  obtain ⟨v0, vs0, d0, ds0, p0, q0, hargs, hds, rfl, h0, r0⟩ := trodAll_cons hA
  obtain ⟨rfl, rfl, rfl⟩ := trodAll_nil r0
  obtain rfl : args = #[v0] := by cases args; simp_all
  subst hds
  obtain ⟨x0, A0, c0, rfl, hO0, wf0⟩ := Law.open_txns Try.underlying22 Try.underlying36 (by kernel_rfl) (by kernel_rfl) Try.underlying3 Try.underlying34 Try.underlying4 Try.underlying70 (by kernel_rfl) (by kernel_rfl) Try.underlying3 Try.underlying3 Try.underlying3 (hval 0 22 v0 rfl rfl) h0
  refine (FnExactAllOrders_c x0 A0 c0 W hO0 wf0).mono fun e W' ⟨he, hb⟩ => ?_
  subst he
  refine ⟨_, rfl, Law.post_true Law.laidOut ?_ rfl rfl Try.underlying4 ⟨rfl, rfl, rfl⟩ hW' hb⟩
  intro t ht
  rw [Try.params3] at ht
  simp only [List.mem_cons, List.not_mem_nil, or_false] at ht
  first | (rcases ht with rfl <;> exact ⟨by kernel_rfl, of_decide_eq_true (by kernel_rfl)⟩)

theorem FnExactAllOrders_holds : Rows.FnExactAllOrdersSaid :=
  OpenClaim.holds_of_wide 3 Try.f3 rfl rfl rfl rfl rfl rfl rfl ⟨rfl, rfl, rfl, rfl, rfl⟩ rfl rfl rfl rfl rfl (by kernel_rfl) Try.func3 (by kernel_rfl)
    (of_decide_eq_true (by kernel_rfl)) (by unfold Func.isWrapper; first | (rw [if_pos (by decide +kernel)]; kernel_rfl) | (rw [if_neg (by decide +kernel)]; exact ⟨rfl, rfl⟩))
    (fun os started H enc _ => FnExactAllOrders_lifted os started H enc)

end Go.Proofs.Ytdgfipoibnjhaaa
