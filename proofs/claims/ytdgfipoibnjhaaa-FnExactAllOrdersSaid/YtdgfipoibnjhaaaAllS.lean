/-
  The reference's AllOrders.
-/
import Derived.Test.YtdgfipoibnjhaaaOutR
import Derived.Test.YtdgfipoibnjhaaaInstO
import Derived.Test.YtdgfipoibnjhaaaAllI
import Derived.Test.YtdgfipoibnjhaaaOwnH
namespace Go.Proofs.Ytdgfipoibnjhaaa
set_option linter.unusedSimpArgs false
set_option linter.unusedVariables false
set_option maxRecDepth 100000
open Go.RowKit

theorem OutR.below {w : World} {B : Nat} {S S' : Nat → Prop} {v : Value} {ps : List PR} (h : OutR w B S v ps) {B' : Nat} (hb : B' ≤ B) (hS : ∀ b, S b → S' b) : OutR w B' S' v ps := by
  refine ⟨⟨h.out.1, ?_⟩, fun q hq => SlAt.mono (h.row q hq) (fun b h1 _ => ⟨hS b h1.1, h1.2⟩) (fun _ _ h => h)⟩
  rcases h.out.2 with h2 | ⟨g, cap, cur, hv, hg, r⟩
  · exact .inl h2
  · exact .inr ⟨g, cap, cur, hv, by omega, r⟩
/-- a slice of the call's own that has a block lies in it -/
theorem own1_in {w : World} {B : Nat} {e : TypeId} {v : Value} {xs : List Int} (h : Own1 w B e v xs) (hg : ∃ g, v.ownBlock = some g) : ∃ g c, v = .slice (some ⟨g, 0, none⟩) xs.length c ∧ B ≤ g ∧ g < w.heap.size ∧ xs.length ≤ c ∧ v.ownBlock = some g ∧ ∀ T : Nat → Prop, T g → Ints T w (some ⟨g, 0, none⟩) xs := by
  obtain ⟨g, c, rfl, h1, h2, h3⟩ := own1_blk h hg
  refine ⟨g, c, rfl, h1, (World.ownsRow.lt h g rfl).2, h3, rfl, fun T hT i x hx => ?_⟩
  obtain ⟨b, off, us, e, _, h5, h6, h7, h8⟩ := h2 i x hx
  cases e
  exact ⟨g, 0, us, rfl, hT, h5, h6, h7, h8⟩
theorem own_apart {w : World} {B B' k k' n n' : Nat} {e e' : TypeId} {v v' : Value} {xs xs' : List Value} (h : w.ownsRow B e k v n xs) (h' : w.ownsRow B' e' k' v' n' xs') (hne : e ≠ e') : v.ownBlock = none ∨ v.ownBlock ≠ v'.ownBlock := by
  rcases h.2 with ⟨rfl, _⟩ | ⟨g, cap, cur, rfl, _, hg, _⟩
  · exact .inl rfl
  · rcases h'.2 with ⟨rfl, _⟩ | ⟨g', cap', cur', rfl, _, hg', _⟩
    · exact .inr (by simp [Value.ownBlock])
    · refine .inr (fun he => ?_)
      simp only [Value.ownBlock, Option.some.injEq] at he
      subst he
      rw [hg] at hg'
      simp only [Option.some.injEq, Obj.cells.injEq] at hg'
      exact hne hg'.2.1
theorem row_apart {W : World} {B B' lo n d g : Nat} {S : Nat → Prop} {v : Value} {qs : List PR} {xs : List Int} (hO : Own1 W B 3 (.slice (some ⟨g, 0, none⟩) n d) xs) (hR : OutR W B' S v qs) (hlo : lo ≤ g) : Ints (fun b => lo ≤ b ∧ some b ≠ v.ownBlock) W (some ⟨g, 0, none⟩) xs := by
  obtain ⟨g2, d2, hv, _, _, _, _, hI⟩ := own1_in hO ⟨g, rfl⟩
  simp only [Value.slice.injEq, Option.some.injEq, Addr.mk.injEq] at hv
  obtain ⟨⟨rfl, _, _⟩, _, _⟩ := hv
  refine hI _ ⟨hlo, ?_⟩
  rcases own_apart hO hR.out (by decide) with h1 | h1
  · cases h1
  · exact h1
theorem outR_lt {w : World} {B lo : Nat} {v : Value} {qs : List PR} (h : OutR w B (fun b => B ≤ b) v qs) (hlo : lo ≤ B) : OutR w lo (fun b => B ≤ b ∧ b < w.heap.size) v qs := by
  refine ⟨(h.below hlo (fun b hb => hb)).out, fun q hq => SlAt.mono (h.row q hq) (fun b hb hl => ⟨⟨hb.1, hl⟩, hb.2⟩) (fun _ _ h => h)⟩
theorem OutR.lit {W w' : World} {B B' g n c : Nat} {S : Nat → Prop} {v : Value} {qs : List PR} {xs : List Int} (hR : OutR W B S v qs) (hL : Own1 W B' 3 (.slice (some ⟨g, 0, none⟩) n c) xs) (hg : W.grownBy w' (Value.slice (some ⟨g, 0, none⟩) n c).ownBlock) (hS : ∀ b, S b → b ≠ g) : OutR w' B S v qs := by
  refine ⟨World.ownsRow.kept hR.out hg ?_, fun q hq => Ints.grown (hR.row q hq) hg (fun b hb _ e => hS b hb.1 (Option.some.inj e))⟩
  rcases own_apart hR.out hL (by decide) with h1 | h1
  · exact .inl h1
  · exact .inr h1
theorem have_of {P Q : Prop} (p : P) (f : P → Q) : Q := f p
theorem qs_small {qs : List PR} {e : PX} (h : qs.map PR.xs = e.rows) (hl : e.ps.length ≤ 3) : qs.length ≤ 1048576 := by
  have := congrArg List.length h
  unfold PX.rows at this
  rw [List.length_map, List.length_map] at this
  omega
abbrev OwnRows (rs : List (List Int)) (w : World) (e : Ending) (w' : World) : Prop := ∃ v qs, e = .returned v ∧ OutR w' w.heap.size (fun b => w.heap.size ≤ b) v qs ∧ (∀ q ∈ qs, ∃ g, q.A = some ⟨g, 0, none⟩) ∧ qs.map PR.xs = rs ∧ Ext w w'
set_option maxHeartbeats 4000000 in
theorem l1OwnRowsInt_c (p : PX) (S : Nat → Prop) (w : World) (hp : InX w S p) (hh : ∀ q ∈ p.ps, ∃ g, q.A = some ⟨g, 0, none⟩) (hl : p.ps.length ≤ 3) (h6 : ∀ q ∈ p.ps, q.xs.length ≤ 6) :
    Calls Try.prog 18 #[.slice p.A p.ps.length p.c] w (OwnRows p.rows w) := by
  obtain ⟨A, c, ps⟩ := p
  simp only at hh hl h6
  show Calls Try.prog 18 #[.slice A ps.length c] w (OwnRows (ps.map PR.xs) w)
  have HP := Lib.hid hp
  have HH := Lib.hid hh
  have H6 := Lib.hid h6
  clear hp hh h6
  go_enter Try.func18, Try.ntmps18
  go_wp2
  have HO := Lib.hid (OutR.made w (B := w.heap.size) (fun b => w.heap.size ≤ b) #[] 0 (Nat.le_refl _) (by omega) rfl)
  go_loopw [3, 4] (fun v i W => ∃ (k : Nat) (qs : List PR), k ≤ ps.length ∧ i = .int .i64 k ∧ OutR W w.heap.size (fun b => w.heap.size ≤ b) v qs ∧ (∀ q ∈ qs, ∃ g, q.A = some ⟨g, 0, none⟩) ∧ qs.map PR.xs = (ps.map PR.xs).take k ∧ Ext w W) (fun _ i _ => ps.length - (intOf i).toNat)
  case atStart => exact ⟨0, [], Nat.zero_le _, rfl, HO.out, (fun q hq => by cases hq), rfl, by (repeat' (first | (with_reducible exact Below.refl _ _) | (with_reducible refine Below.mono (by assumption) ?_) | (with_reducible refine Below.trans ?_ (Below.mono (by assumption) ?_)) | (with_reducible refine Below.alloc ?_ ?_ _) | (with_reducible refine Below.drew ?_) | (with_reducible refine below_drewN ?_ _) | (with_reducible refine Below.setCell ?_ ?_ _) | (simp only [World.size_alloc, World.size_setCell, World.size_drew, size_drewN]; omega) | omega))⟩
  case round =>
    obtain ⟨k, qs, hk, rfl, hQ, hq, hm, hE⟩ := hrel
    have HQ := Lib.hid hQ
    have HHq := Lib.hid hq
    have HM := Lib.hid hm
    have HE := Lib.hid hE
    have hz := hE.size
    clear HO hQ hq hm hE
    by_cases hlt : k < ps.length
    · have hki : (k : Int) < ps.length := by omega
      obtain ⟨r, hr⟩ : ∃ r, ps[k]? = some r := ⟨ps[k], List.getElem?_eq_getElem hlt⟩
      obtain ⟨g, off, hA, _, hgl, hc, hI⟩ := HP.out k r hr
      obtain ⟨gr, hgr⟩ := HH.out r (List.mem_of_getElem? hr)
      have hr6 := H6.out r (List.mem_of_getElem? hr)
      have HT := Lib.hid (show (ps.map PR.xs).take (k + 1) = (ps.map PR.xs).take k ++ [r.xs] by rw [List.take_add_one, List.getElem?_map, hr]; rfl)
      obtain ⟨rA, rc, rxs⟩ := r
      simp only at hA hgr hr6 hI HT
      subst hA
      subst hgr
      simp only [PR.cell] at hc
      have hcw := HE.out.keep hgl hc
      have hgl2 : g < wr.heap.size := by omega
      have HI := Lib.hid (Ints.ext hI HE.out)
      have hql : qs.length ≤ 3 := by
        have h1 := congrArg List.length HM.out
        rw [List.length_map, List.length_take] at h1
        omega
      have hO : Own1 (wr.alloc (.cells #[] 3)) wr.heap.size 3 (.slice (some ⟨wr.heap.size, 0, none⟩) 0 0) [] := Own1.made wr #[] 0 rfl (Nat.le_refl _) (by omega) rfl
      have HOo := Lib.hid hO
      clear hr hc hI hO
      go_wp2_with (at_builtin; go_loud (refine wpList_app1n _ rfl _ _ rfl wr.heap.size _ [] rfl (HOo.out.ext (by (repeat' (first | (with_reducible exact Below.refl _ _) | (with_reducible refine Below.mono (by assumption) ?_) | (with_reducible refine Below.trans ?_ (Below.mono (by assumption) ?_)) | (with_reducible refine Below.alloc ?_ ?_ _) | (with_reducible refine Below.drew ?_) | (with_reducible refine below_drewN ?_ _) | (with_reducible refine Below.setCell ?_ ?_ _) | (simp only [World.size_alloc, World.size_setCell, World.size_drew, size_drewN]; omega) | omega)))) S gr 0 rxs.length rc rxs rfl rfl (Ints.ext HI.out (by (repeat' (first | (with_reducible exact Below.refl _ _) | (with_reducible refine Below.mono (by assumption) ?_) | (with_reducible refine Below.trans ?_ (Below.mono (by assumption) ?_)) | (with_reducible refine Below.alloc ?_ ?_ _) | (with_reducible refine Below.drew ?_) | (with_reducible refine below_drewN ?_ _) | (with_reducible refine Below.setCell ?_ ?_ _) | (simp only [World.size_alloc, World.size_setCell, World.size_drew, size_drewN]; omega) | omega)))) ?_ ?_ ?_))
      all_goals try (first | omega | (simp only [World.size_alloc]; omega) | (simp only [List.length_nil]; omega))
      intro v2 w2 hO2 hg2 hat2
      have hE2 : Ext wr w2 := by
        refine Below.grown ?_ hg2 ?_ (fun g hg => (World.ownsRow.lt HOo.out g hg).1)
        · (repeat' (first | (with_reducible exact Below.refl _ _) | (with_reducible refine Below.mono (by assumption) ?_) | (with_reducible refine Below.trans ?_ (Below.mono (by assumption) ?_)) | (with_reducible refine Below.alloc ?_ ?_ _) | (with_reducible refine Below.drew ?_) | (with_reducible refine below_drewN ?_ _) | (with_reducible refine Below.setCell ?_ ?_ _) | (simp only [World.size_alloc, World.size_setCell, World.size_drew, size_drewN]; omega) | omega))
        · simp only [World.size_alloc]; omega
      have hz2 := hE2.size
      try rw [List.nil_append] at hO2
      obtain ⟨g2, d2, rfl, hg2l, hg2h, hd2, _, hI2⟩ := own1_in hO2 (by
        rcases hat2 with e | e
        · exact ⟨_, e.trans rfl⟩
        · exact ⟨_, e⟩)
      have hne : some g2 ≠ u3.ownBlock := by
        have h1 := own_apart hO2 (HQ.out.ext hE2).out (by decide)
        rcases h1 with h1 | h1
        · cases h1
        · exact h1
      have HIn := Lib.hid (hI2 (fun b => w.heap.size ≤ b ∧ some b ≠ u3.ownBlock) ⟨by omega, hne⟩)
      have HE2 := Lib.hid hE2
      have HQ2 := Lib.hid (HQ.out.ext hE2)
      have HQl := Lib.hid (fun g hg => (HQ.out.lt g hg).1)
      clear hO2 hg2 hat2 hE2 hI2 hne HQ
      go_wp2_with (at_builtin; go_loud (refine wpList_appendO _ rfl _ _ 41 rfl Try.underlying41 infoRow rfl w.heap.size _ _ qs rfl (HQ2.out.ext (by (repeat' (first | (with_reducible exact Below.refl _ _) | (with_reducible refine Below.mono (by assumption) ?_) | (with_reducible refine Below.trans ?_ (Below.mono (by assumption) ?_)) | (with_reducible refine Below.alloc ?_ ?_ _) | (with_reducible refine Below.drew ?_) | (with_reducible refine below_drewN ?_ _) | (with_reducible refine Below.setCell ?_ ?_ _) | (simp only [World.size_alloc, World.size_setCell, World.size_drew, size_drewN]; omega) | omega)))) ⟨some ⟨g2, 0, none⟩, d2, rxs⟩ (Ints.ext HIn.out (by (repeat' (first | (with_reducible exact Below.refl _ _) | (with_reducible refine Below.mono (by assumption) ?_) | (with_reducible refine Below.trans ?_ (Below.mono (by assumption) ?_)) | (with_reducible refine Below.alloc ?_ ?_ _) | (with_reducible refine Below.drew ?_) | (with_reducible refine below_drewN ?_ _) | (with_reducible refine Below.setCell ?_ ?_ _) | (simp only [World.size_alloc, World.size_setCell, World.size_drew, size_drewN]; omega) | omega)))) _ rfl ?_ (by omega) ?_ ?_))
      · first | (simp [PR.cell]; done) | exact (litF _ _ _ 0).trans rfl
      · simp only [World.size_alloc]; omega
      · intro v8 w8 hO8 hg8 _
        have hE8 : Ext w w8 := Below.grown ((HE.out.tr HE2.out).tr (show Ext w2 (w2.alloc (.cells #[.slice (some ⟨g2, 0, none⟩) rxs.length d2] 39)) by (repeat' (first | (with_reducible exact Below.refl _ _) | (with_reducible refine Below.mono (by assumption) ?_) | (with_reducible refine Below.trans ?_ (Below.mono (by assumption) ?_)) | (with_reducible refine Below.alloc ?_ ?_ _) | (with_reducible refine Below.drew ?_) | (with_reducible refine below_drewN ?_ _) | (with_reducible refine Below.setCell ?_ ?_ _) | (simp only [World.size_alloc, World.size_setCell, World.size_drew, size_drewN]; omega) | omega)))) hg8 (by simp only [World.size_alloc]; omega) (fun g hg => HQl.out g hg)
        have HO8 := Lib.hid hO8
        have HE8 := Lib.hid hE8
        clear hO8 hg8 hE8
        go_wp2
        go_roundw
        case measure => simp [intOf]; omega
        case rel => exact ⟨k + 1, _, by omega, by go_num, HO8.out, (fun q hq => by
          rcases List.mem_append.1 hq with hq | hq
          · exact HHq.out q hq
          · obtain rfl := List.mem_singleton.1 hq
            exact ⟨_, rfl⟩), by rw [List.map_append, HM.out, HT.out]; rfl, HE8.out⟩
    · obtain rfl : k = ps.length := by omega
      have hm2 : qs.map PR.xs = ps.map PR.xs := by rw [HM.out, List.take_of_length_le (by rw [List.length_map]; exact Nat.le_refl _)]
      have HF := Lib.hid hm2
      clear hm2
      go_wp2
      go_ret
      exact ⟨_, qs, rfl, HQ.out, HHq.out, HF.out, HE.out⟩
set_option maxHeartbeats 8000000 in
theorem specAllOrders_c (h : List TxnT) (S : Nat → Prop) (A : Option Addr) (c : Nat) (w : World) (hx : Txns S w A h) (hcap : CapN w A h.length) (hsm : Small h) :
    Calls Try.prog 5 #[.slice A h.length c] w (FreshX (allV h) w) := by
  have CO := Lib.hid (fun w hx hcap => l1OwnTxnList_c h S A c w hx hcap hsm)
  have CV := fun A c w hx => specHistoryValid_c h Any A c w hx hsm
  have CI := Lib.hid (fun A c (k : Nat) w hx => specInstalled_c h Any A c (k : Int) w hx hsm)
  have HX := Lib.hid hx
  have HCp := Lib.hid hcap
  clear hx hcap
  cases hv : histv h with
  | false =>
    have e : allV h = [] := by unfold allV; rw [if_neg (by rw [hv]; simp)]
    rw [e]
    rw [hv] at CV
    have CV := Lib.hid CV
    clear hv e
    go_enter Try.func5, Try.ntmps5
    go_wp2_with (fail)
    go_at_call 14
    refine (CO.out _ (HX.out.ext (by (repeat' (first | (with_reducible exact Below.refl _ _) | (with_reducible refine Below.mono (by assumption) ?_) | (with_reducible refine Below.trans ?_ (Below.mono (by assumption) ?_)) | (with_reducible refine Below.alloc ?_ ?_ _) | (with_reducible refine Below.drew ?_) | (with_reducible refine below_drewN ?_ _) | (with_reducible refine Below.setCell ?_ ?_ _) | (simp only [World.size_alloc, World.size_setCell, World.size_drew, size_drewN]; omega) | omega)))) (HCp.out.ext (by (repeat' (first | (with_reducible exact Below.refl _ _) | (with_reducible refine Below.mono (by assumption) ?_) | (with_reducible refine Below.trans ?_ (Below.mono (by assumption) ?_)) | (with_reducible refine Below.alloc ?_ ?_ _) | (with_reducible refine Below.drew ?_) | (with_reducible refine below_drewN ?_ _) | (with_reducible refine Below.setCell ?_ ?_ _) | (simp only [World.size_alloc, World.size_setCell, World.size_drew, size_drewN]; omega) | omega))))).mono ?_
    rintro e w1 ⟨A1, c1, rfl, hx1, _, hb⟩
    obtain ⟨hc, hf, hz, hs⟩ := bcell hb
    (try simp only [World.size_alloc, World.size_setCell, World.size_drew, size_drewN] at hs); (first | have l0 := Nat.lt_of_lt_of_le l0 (show _ ≤ w1.heap.size by omega) | have l0 : w.heap.size < w1.heap.size := (by omega) | skip); (try have l0e := Nat.le_of_lt l0); (try have l0f := Nat.le_add_right_of_le (k := 1) l0e); (try have l1 := Nat.lt_of_lt_of_le l1 (show _ ≤ w1.heap.size by omega)); (try have l1e := Nat.le_of_lt l1); (try have l1f := Nat.le_add_right_of_le (k := 1) l1e); (try have l2 := Nat.lt_of_lt_of_le l2 (show _ ≤ w1.heap.size by omega)); (try have l2e := Nat.le_of_lt l2); (try have l2f := Nat.le_add_right_of_le (k := 1) l2e); (try have l3 := Nat.lt_of_lt_of_le l3 (show _ ≤ w1.heap.size by omega)); (try have l3e := Nat.le_of_lt l3); (try have l3f := Nat.le_add_right_of_le (k := 1) l3e)
    have HX1 := Lib.hid (show Txns Any w1 A1 h from SlAt.mono hx1 (fun _ _ _ => trivial) (mono_txn (fun _ _ _ => trivial)))
    have HE1 := Lib.hid (show Ext w w1 from hb)
    clear hx1 hb hc hf hz
    go_wp2_with (fail)
    go_at_call 15
    refine (CV.out _ _ _ HX1.out).mono ?_
    rintro e w2 ⟨rfl, hb⟩
    obtain ⟨hc, hf, hz, hs⟩ := bcell hb
    (try simp only [World.size_alloc, World.size_setCell, World.size_drew, size_drewN] at hs); (first | have l0 := Nat.lt_of_lt_of_le l0 (show _ ≤ w2.heap.size by omega) | have l0 : w.heap.size < w2.heap.size := (by omega) | skip); (try have l0e := Nat.le_of_lt l0); (try have l0f := Nat.le_add_right_of_le (k := 1) l0e); (try have l1 := Nat.lt_of_lt_of_le l1 (show _ ≤ w2.heap.size by omega)); (try have l1e := Nat.le_of_lt l1); (try have l1f := Nat.le_add_right_of_le (k := 1) l1e); (try have l2 := Nat.lt_of_lt_of_le l2 (show _ ≤ w2.heap.size by omega)); (try have l2e := Nat.le_of_lt l2); (try have l2f := Nat.le_add_right_of_le (k := 1) l2e); (try have l3 := Nat.lt_of_lt_of_le l3 (show _ ≤ w2.heap.size by omega)); (try have l3e := Nat.le_of_lt l3); (try have l3f := Nat.le_add_right_of_le (k := 1) l3e)
    go_wp2
    go_ret
    exact ⟨_, _, rfl, SlAt.nil, (HE1.out.tr hb).tr (by (repeat' (first | (with_reducible exact Below.refl _ _) | (with_reducible refine Below.mono (by assumption) ?_) | (with_reducible refine Below.trans ?_ (Below.mono (by assumption) ?_)) | (with_reducible refine Below.alloc ?_ ?_ _) | (with_reducible refine Below.drew ?_) | (with_reducible refine below_drewN ?_ _) | (with_reducible refine Below.setCell ?_ ?_ _) | (simp only [World.size_alloc, World.size_setCell, World.size_drew, size_drewN]; omega) | omega)))⟩
  | true =>
    have CIo := Lib.hid (fun A c (k : Nat) (hk : k < 3) w hx => specInstalled_o h Any A c (k : Int) w hx hsm hv (inB_iff.2 (by omega)))
    have hit : ∀ k : Nat, k < 3 → inT h (k : Int) h.length = instd h (k : Int) := fun k hk => by unfold instd; rw [if_pos ⟨hv, inB_iff.2 (by omega)⟩]
    have hf3 := first_three hv
    have hl6 := first_len6 hv
    have hav : allV h = if manyV (firstV h) ≤ 200 then allL (firstV h) else [] := by unfold allV; simp [hv]
    rw [hav]
    rw [hv] at CV
    have CV := Lib.hid CV
    have hll : (firstV h).length = 3 := by rw [hf3]; rfl
    have hat : ∀ k : Nat, k < 3 → (firstV h)[k]? = some (instd h (k : Int)) := fun k hk => by
      rw [hf3]
      obtain rfl | rfl | rfl : k = 0 ∨ k = 1 ∨ k = 2 := by omega
      all_goals rfl
    generalize firstV h = ls at hl6 hll hat ⊢
    have HMb := Lib.hid (many_le hl6 (by omega))
    have HL6 := Lib.hid hl6
    have HLl := Lib.hid hll
    have HAt := Lib.hid hat
    have HIt := Lib.hid hit
    obtain ⟨R, hR⟩ : ∃ R, (if manyV ls ≤ 200 then allL ls else []) = R := ⟨_, rfl⟩
    rw [hR]
    have HRr := Lib.hid hR
    clear hv hf3 hav hl6 hR hll hat hit
    go_enter Try.func5, Try.ntmps5
    go_wp2_with (fail)
    go_at_call 14
    refine (CO.out _ (HX.out.ext (by (repeat' (first | (with_reducible exact Below.refl _ _) | (with_reducible refine Below.mono (by assumption) ?_) | (with_reducible refine Below.trans ?_ (Below.mono (by assumption) ?_)) | (with_reducible refine Below.alloc ?_ ?_ _) | (with_reducible refine Below.drew ?_) | (with_reducible refine below_drewN ?_ _) | (with_reducible refine Below.setCell ?_ ?_ _) | (simp only [World.size_alloc, World.size_setCell, World.size_drew, size_drewN]; omega) | omega)))) (HCp.out.ext (by (repeat' (first | (with_reducible exact Below.refl _ _) | (with_reducible refine Below.mono (by assumption) ?_) | (with_reducible refine Below.trans ?_ (Below.mono (by assumption) ?_)) | (with_reducible refine Below.alloc ?_ ?_ _) | (with_reducible refine Below.drew ?_) | (with_reducible refine below_drewN ?_ _) | (with_reducible refine Below.setCell ?_ ?_ _) | (simp only [World.size_alloc, World.size_setCell, World.size_drew, size_drewN]; omega) | omega))))).mono ?_
    rintro e w1 ⟨A1, c1, rfl, hx1, _, hb⟩
    obtain ⟨hc, hf, hz, hs⟩ := bcell hb
    (try simp only [World.size_alloc, World.size_setCell, World.size_drew, size_drewN] at hs); (first | have l0 := Nat.lt_of_lt_of_le l0 (show _ ≤ w1.heap.size by omega) | have l0 : w.heap.size < w1.heap.size := (by omega) | skip); (try have l0e := Nat.le_of_lt l0); (try have l0f := Nat.le_add_right_of_le (k := 1) l0e); (try have l1 := Nat.lt_of_lt_of_le l1 (show _ ≤ w1.heap.size by omega)); (try have l1e := Nat.le_of_lt l1); (try have l1f := Nat.le_add_right_of_le (k := 1) l1e); (try have l2 := Nat.lt_of_lt_of_le l2 (show _ ≤ w1.heap.size by omega)); (try have l2e := Nat.le_of_lt l2); (try have l2f := Nat.le_add_right_of_le (k := 1) l2e); (try have l3 := Nat.lt_of_lt_of_le l3 (show _ ≤ w1.heap.size by omega)); (try have l3e := Nat.le_of_lt l3); (try have l3f := Nat.le_add_right_of_le (k := 1) l3e)
    have HX1 := Lib.hid (show Txns Any w1 A1 h from SlAt.mono hx1 (fun _ _ _ => trivial) (mono_txn (fun _ _ _ => trivial)))
    have HE1 := Lib.hid (show Ext w w1 from hb)
    clear hx1 hb hc hf hz HX HCp CO
    go_wp2_with (fail)
    go_at_call 15
    refine (CV.out _ _ _ HX1.out).mono ?_
    rintro e w2 ⟨rfl, hb⟩
    obtain ⟨hc, hf, hz, hs⟩ := bcell hb
    (try simp only [World.size_alloc, World.size_setCell, World.size_drew, size_drewN] at hs); (first | have l0 := Nat.lt_of_lt_of_le l0 (show _ ≤ w2.heap.size by omega) | have l0 : w.heap.size < w2.heap.size := (by omega) | skip); (try have l0e := Nat.le_of_lt l0); (try have l0f := Nat.le_add_right_of_le (k := 1) l0e); (try have l1 := Nat.lt_of_lt_of_le l1 (show _ ≤ w2.heap.size by omega)); (try have l1e := Nat.le_of_lt l1); (try have l1f := Nat.le_add_right_of_le (k := 1) l1e); (try have l2 := Nat.lt_of_lt_of_le l2 (show _ ≤ w2.heap.size by omega)); (try have l2e := Nat.le_of_lt l2); (try have l2f := Nat.le_add_right_of_le (k := 1) l2e); (try have l3 := Nat.lt_of_lt_of_le l3 (show _ ≤ w2.heap.size by omega)); (try have l3e := Nat.le_of_lt l3); (try have l3f := Nat.le_add_right_of_le (k := 1) l3e)
    have HX2 := Lib.hid (HX1.out.ext hb)
    have HE2 := Lib.hid (HE1.out.tr hb)
    clear hb hc hf hz HX1 HE1 CV
    go_wp2
    go_loopw [3, 4] (fun m i W => ∃ k : Nat, k ≤ 3 ∧ i = .int .i64 k ∧ m = .int .i64 (manyV (ls.take k) : Nat) ∧ Ext w2 W) (fun _ i _ => 3 - (intOf i).toNat)
    case atStart => exact ⟨0, Nat.zero_le _, rfl, rfl, Below.refl _ _⟩
    case round =>
      obtain ⟨k, hk, rfl, rfl, hE⟩ := hrel
      have HE := Lib.hid hE
      clear hE
      by_cases hlt : k < 3
      · have hki : (k : Int) ≤ 2 := by omega
        have hlk := HAt.out k hlt
        have hl6 := HL6.out _ (List.mem_of_getElem? hlk)
        have CIk := fun W hx => CI.out A1 c1 k W hx
        generalize instd h (k : Int) = pl at hlk hl6 CIk
        have CIk := Lib.hid CIk
        have HMt := Lib.hid (manyV_take hlk)
        have hm0 := (HMb.out k).2
        have hm1 := (HMb.out (k + 1)).2
        rw [HMt.out] at hm1
        clear hlk
        obtain ⟨q, hq⟩ : ∃ q, manyV (ls.take k) = q := ⟨_, rfl⟩
        rw [hq] at HMt hm0 hm1 ⊢
        have HM1 := Lib.hid hm1
        have hfac1 : q * fac 1 = q := by simp [fac]
        have HF1 := Lib.hid hfac1
        clear hm1 hq hfac1
        go_wp2
        go_loopw [3, 5] (fun m i W => ∃ n : Nat, 1 ≤ n ∧ (n = 1 ∨ n ≤ pl.length) ∧ i = .int .i64 ((n : Int) + 1) ∧ m = .int .i64 (q * fac n : Nat) ∧ Ext w2 W) (fun _ i _ => 8 - (intOf i).toNat)
        case atStart => exact ⟨1, Nat.le_refl _, .inl rfl, rfl, by rw [HF1.out], HE.out⟩
        case round =>
          obtain ⟨n, hn1, hn2, rfl, rfl, hE3⟩ := hrel
          have HE3 := Lib.hid hE3
          have hn6 : n ≤ 6 := by omega
          clear hE3
          by_cases hlt2 : n + 1 ≤ pl.length
          · have hni : (n : Int) + 1 ≤ pl.length := by omega
            have hf1 : q * fac n ≤ 373248000 := Nat.le_trans (Nat.mul_le_mul_left _ (fac_mono (by omega))) HM1.out
            have hf2 : q * fac (n + 1) ≤ 373248000 := Nat.le_trans (Nat.mul_le_mul_left _ (fac_mono (by omega))) HM1.out
            have HFe := Lib.hid (show q * fac (n + 1) = q * fac n * (n + 1) by rw [show fac (n + 1) = fac n * (n + 1) from rfl, Nat.mul_assoc])
            rw [HFe.out] at hf2
            generalize q * fac n = f at HFe hf1 hf2 ⊢
            have hp0 : 0 ≤ (f : Int) * ((n : Int) + 1) := by
              have : ((f * (n + 1) : Nat) : Int) = (f : Int) * ((n : Int) + 1) := by simp
              omega
            have hp1 : (f : Int) * ((n : Int) + 1) ≤ 373248000 := by
              have : ((f * (n + 1) : Nat) : Int) = (f : Int) * ((n : Int) + 1) := by simp
              omega
            go_wp2_with (fail)
            go_at_call 16
            refine (CIk.out _ (HX2.out.ext (HE3.out.tr (by (repeat' (first | (with_reducible exact Below.refl _ _) | (with_reducible refine Below.mono (by assumption) ?_) | (with_reducible refine Below.trans ?_ (Below.mono (by assumption) ?_)) | (with_reducible refine Below.alloc ?_ ?_ _) | (with_reducible refine Below.drew ?_) | (with_reducible refine below_drewN ?_ _) | (with_reducible refine Below.setCell ?_ ?_ _) | (simp only [World.size_alloc, World.size_setCell, World.size_drew, size_drewN]; omega) | omega)))))).mono ?_
            rintro e w3 ⟨A3, c3, rfl, _, _, hb⟩
            obtain ⟨hc, hf, hz, hs⟩ := bcell hb
            (try simp only [World.size_alloc, World.size_setCell, World.size_drew, size_drewN] at hs); (first | have l0 := Nat.lt_of_lt_of_le l0 (show _ ≤ w3.heap.size by omega) | have l0 : w.heap.size < w3.heap.size := (by omega) | skip); (try have l0e := Nat.le_of_lt l0); (try have l0f := Nat.le_add_right_of_le (k := 1) l0e); (try have l1 := Nat.lt_of_lt_of_le l1 (show _ ≤ w3.heap.size by omega)); (try have l1e := Nat.le_of_lt l1); (try have l1f := Nat.le_add_right_of_le (k := 1) l1e); (try have l2 := Nat.lt_of_lt_of_le l2 (show _ ≤ w3.heap.size by omega)); (try have l2e := Nat.le_of_lt l2); (try have l2f := Nat.le_add_right_of_le (k := 1) l2e); (try have l3 := Nat.lt_of_lt_of_le l3 (show _ ≤ w3.heap.size by omega)); (try have l3e := Nat.le_of_lt l3); (try have l3f := Nat.le_add_right_of_le (k := 1) l3e)
            have HE4 := Lib.hid (HE3.out.tr hb)
            clear hb hc hf hz
            go_wp2
            exact ⟨⟨n + 1, by omega, by omega, by go_num, by rw [HFe.out]; go_num, HE4.out⟩, by simp [intOf]; omega⟩
          · have hni : ¬ ((n : Int) + 1 ≤ pl.length) := by omega
            have hff : q * fac n = manyV (ls.take (k + 1)) := by
              rw [HMt.out]
              rcases hn2 with e | e
              · subst e
                rcases Nat.eq_zero_or_pos pl.length with h0 | h0
                · rw [h0]; rfl
                · rw [show pl.length = 1 by omega]
              · rw [show pl.length = n by omega]
            rw [hff]
            have hm1 := (HMb.out (k + 1)).2
            clear hff
            go_wp2_with (fail)
            go_at_call 16
            refine (CIk.out _ (HX2.out.ext (HE3.out.tr (by (repeat' (first | (with_reducible exact Below.refl _ _) | (with_reducible refine Below.mono (by assumption) ?_) | (with_reducible refine Below.trans ?_ (Below.mono (by assumption) ?_)) | (with_reducible refine Below.alloc ?_ ?_ _) | (with_reducible refine Below.drew ?_) | (with_reducible refine below_drewN ?_ _) | (with_reducible refine Below.setCell ?_ ?_ _) | (simp only [World.size_alloc, World.size_setCell, World.size_drew, size_drewN]; omega) | omega)))))).mono ?_
            rintro e w3 ⟨A3, c3, rfl, _, _, hb⟩
            obtain ⟨hc, hf, hz, hs⟩ := bcell hb
            (try simp only [World.size_alloc, World.size_setCell, World.size_drew, size_drewN] at hs); (first | have l0 := Nat.lt_of_lt_of_le l0 (show _ ≤ w3.heap.size by omega) | have l0 : w.heap.size < w3.heap.size := (by omega) | skip); (try have l0e := Nat.le_of_lt l0); (try have l0f := Nat.le_add_right_of_le (k := 1) l0e); (try have l1 := Nat.lt_of_lt_of_le l1 (show _ ≤ w3.heap.size by omega)); (try have l1e := Nat.le_of_lt l1); (try have l1f := Nat.le_add_right_of_le (k := 1) l1e); (try have l2 := Nat.lt_of_lt_of_le l2 (show _ ≤ w3.heap.size by omega)); (try have l2e := Nat.le_of_lt l2); (try have l2f := Nat.le_add_right_of_le (k := 1) l2e); (try have l3 := Nat.lt_of_lt_of_le l3 (show _ ≤ w3.heap.size by omega)); (try have l3e := Nat.le_of_lt l3); (try have l3f := Nat.le_add_right_of_le (k := 1) l3e)
            have HE4 := Lib.hid (HE3.out.tr hb)
            clear hb hc hf hz
            go_wp2
            exact ⟨⟨k + 1, by omega, by go_num, rfl, HE4.out⟩, by simp [intOf]; omega⟩
      · obtain ⟨k3, hk3⟩ : ∃ k3, k3 = k := ⟨_, rfl⟩
        subst hk3
        have hk33 : k3 = 3 := by omega
        have HK3 := Lib.hid hk33
        obtain ⟨w0, hw0⟩ : ∃ w0, w0 = wr := ⟨_, rfl⟩
        subst hw0
        have hmt : manyV (ls.take k3) = manyV ls := by rw [List.take_of_length_le (by rw [HLl.out]; omega)]
        have hmm := (HMb.out k3).2
        rw [hmt] at hmm ⊢
        have hki3 : ¬ ((k3 : Int) ≤ 2) := by omega
        have HX0 := Lib.hid (HX2.out.ext HE.out)
        have HE0 := Lib.hid (HE2.out.tr HE.out)
        clear hk33 hlt hk
        by_cases h2 : manyV ls ≤ 200
        rotate_left
        · have HR0 := Lib.hid (show R = [] by rw [← HRr.out, if_neg h2])
          have h2i : (200 : Int) < (manyV ls : Nat) := by omega
          clear h2 hmt
          generalize manyV ls = q at h2i hmm ⊢
          go_wp2
          go_ret
          rw [HR0.out]
          exact ⟨_, _, rfl, SlAt.nil, HE0.out.tr (by (repeat' (first | (with_reducible exact Below.refl _ _) | (with_reducible refine Below.mono (by assumption) ?_) | (with_reducible refine Below.trans ?_ (Below.mono (by assumption) ?_)) | (with_reducible refine Below.alloc ?_ ?_ _) | (with_reducible refine Below.drew ?_) | (with_reducible refine below_drewN ?_ _) | (with_reducible refine Below.setCell ?_ ?_ _) | (simp only [World.size_alloc, World.size_setCell, World.size_drew, size_drewN]; omega) | omega)))⟩
        · have HR0 := Lib.hid (show R = allL ls by rw [← HRr.out, if_pos h2])
          have h2i : ¬ ((200 : Int) < (manyV ls : Nat)) := by omega
          have HM2 := Lib.hid (fun j => Nat.le_trans (many_mono ls j) h2)
          clear h2 hmt
          have hO0 : OutX ((w0.alloc (.cells #[] 39)).alloc (.cells #[.slice (some ⟨w0.heap.size, 0, none⟩) 0 0] 41)) w0.heap.size (.slice (some ⟨w0.heap.size + 1, 0, none⟩) 1 1) [⟨some ⟨w0.heap.size, 0, none⟩, 0, []⟩] := by
            have := OutX.one (w0.alloc (.cells #[] 39)) (B := w0.heap.size) ⟨some ⟨w0.heap.size, 0, none⟩, 0, []⟩ (by simp) (fun j q hq => by simp at hq)
            rw [World.size_alloc] at this
            exact this
          have HO0 := Lib.hid hO0
          clear hO0
          generalize manyV ls = q at h2i hmm ⊢
          go_wp2
          go_loopw [6, 7] (fun v i W => ∃ (j : Nat) (es : List PX), j ≤ 3 ∧ i = .int .i64 j ∧ OutX W w0.heap.size v es ∧ HasX es ∧ es.map PX.rows = allL (ls.take j) ∧ Ext w0 W) (fun _ i _ => 3 - (intOf i).toNat)
          case atStart => exact ⟨0, _, Nat.zero_le _, rfl, HO0.out, HasX.app HasX.nil (fun q hq => by cases hq), rfl, by (repeat' (first | (with_reducible exact Below.refl _ _) | (with_reducible refine Below.mono (by assumption) ?_) | (with_reducible refine Below.trans ?_ (Below.mono (by assumption) ?_)) | (with_reducible refine Below.alloc ?_ ?_ _) | (with_reducible refine Below.drew ?_) | (with_reducible refine below_drewN ?_ _) | (with_reducible refine Below.setCell ?_ ?_ _) | (simp only [World.size_alloc, World.size_setCell, World.size_drew, size_drewN]; omega) | omega))⟩
          case round =>
            obtain ⟨j, es, hj, rfl, hOx, hHx, hem, hE3⟩ := hrel
            have HOx := Lib.hid hOx
            have HHx := Lib.hid hHx
            have HEm := Lib.hid hem
            have HE3 := Lib.hid hE3
            have hz0 := hE3.size
            clear HO0 hOx hHx hem hE3
            by_cases hlt : j < 3
            · have hji : (j : Int) ≤ 2 := by omega
              have hlk := HAt.out j hlt
              have hl6 := HL6.out _ (List.mem_of_getElem? hlk)
              have CIk := fun W hx => CIo.out A1 c1 j hlt W hx
              rw [HIt.out j hlt] at CIk
              generalize instd h (j : Int) = pl at hlk hl6 CIk
              have CIk := Lib.hid CIk
              have HLk := Lib.hid hlk
              have hes : es.length ≤ 200 := by
                have h1 := congrArg List.length HEm.out
                rw [List.length_map, all_take_len] at h1
                have := HM2.out j
                omega
              have hxl : (extV (allL (ls.take j)) pl).length ≤ 200 := by
                rw [← allL_take HLk.out, all_take_len]
                exact HM2.out (j + 1)
              have HXl := Lib.hid hxl
              clear hlk hxl
              go_wp2_with (fail)
              go_at_call 16
              refine (CIk.out _ (HX0.out.ext (HE3.out.tr (by (repeat' (first | (with_reducible exact Below.refl _ _) | (with_reducible refine Below.mono (by assumption) ?_) | (with_reducible refine Below.trans ?_ (Below.mono (by assumption) ?_)) | (with_reducible refine Below.alloc ?_ ?_ _) | (with_reducible refine Below.drew ?_) | (with_reducible refine below_drewN ?_ _) | (with_reducible refine Below.setCell ?_ ?_ _) | (simp only [World.size_alloc, World.size_setCell, World.size_drew, size_drewN]; omega) | omega)))))).mono ?_
              rintro e w4 ⟨v4, rfl, hO4, hb, _⟩
              obtain ⟨hc, hf, hz, hs⟩ := bcell hb
              (try simp only [World.size_alloc, World.size_setCell, World.size_drew, size_drewN] at hs); (first | have l0 := Nat.lt_of_lt_of_le l0 (show _ ≤ w4.heap.size by omega) | have l0 : w.heap.size < w4.heap.size := (by omega) | skip); (try have l0e := Nat.le_of_lt l0); (try have l0f := Nat.le_add_right_of_le (k := 1) l0e); (try have l1 := Nat.lt_of_lt_of_le l1 (show _ ≤ w4.heap.size by omega)); (try have l1e := Nat.le_of_lt l1); (try have l1f := Nat.le_add_right_of_le (k := 1) l1e); (try have l2 := Nat.lt_of_lt_of_le l2 (show _ ≤ w4.heap.size by omega)); (try have l2e := Nat.le_of_lt l2); (try have l2f := Nat.le_add_right_of_le (k := 1) l2e); (try have l3 := Nat.lt_of_lt_of_le l3 (show _ ≤ w4.heap.size by omega)); (try have l3e := Nat.le_of_lt l3); (try have l3f := Nat.le_add_right_of_le (k := 1) l3e)
              obtain ⟨A4, c4, rfl, hI4, hle4⟩ := own1_capF hO4
              have HE4 := Lib.hid (show Ext wr w4 from hb)
              have CP := Lib.hid (l7Orders_c pl.length pl _ A4 c4 w4 rfl hl6 hI4 hle4)
              clear hO4 hI4 hb hc hf hz
              go_wp2_with (fail)
              go_at_call 17
              refine (CP.out).mono ?_
              rintro e w5 ⟨v5, p9, rfl, hO9, hm9, hh9, hb⟩
              obtain ⟨hc, hf, hz, hs⟩ := bcell hb
              (try simp only [World.size_alloc, World.size_setCell, World.size_drew, size_drewN] at hs); (first | have l0 := Nat.lt_of_lt_of_le l0 (show _ ≤ w5.heap.size by omega) | have l0 : w.heap.size < w5.heap.size := (by omega) | skip); (try have l0e := Nat.le_of_lt l0); (try have l0f := Nat.le_add_right_of_le (k := 1) l0e); (try have l1 := Nat.lt_of_lt_of_le l1 (show _ ≤ w5.heap.size by omega)); (try have l1e := Nat.le_of_lt l1); (try have l1f := Nat.le_add_right_of_le (k := 1) l1e); (try have l2 := Nat.lt_of_lt_of_le l2 (show _ ≤ w5.heap.size by omega)); (try have l2e := Nat.le_of_lt l2); (try have l2f := Nat.le_add_right_of_le (k := 1) l2e); (try have l3 := Nat.lt_of_lt_of_le l3 (show _ ≤ w5.heap.size by omega)); (try have l3e := Nat.le_of_lt l3); (try have l3f := Nat.le_add_right_of_le (k := 1) l3e)
              have HE5 := Lib.hid (HE4.out.tr hb)
              obtain ⟨A9, c9, rfl, hle9, hin9⟩ := hO9.inx
              have HM9 := Lib.hid hm9
              have HH9 := Lib.hid hh9
              have HI9 := Lib.hid hin9
              have hp9l : ∀ p ∈ p9, p.xs.length ≤ 6 := fun p hp => by
                have h1 : p.xs ∈ prm pl := by rw [← HM9.out]; exact List.mem_map.2 ⟨p, hp, rfl⟩
                have h2 := (prm_perm h1).length_eq
                omega
              have HP9l := Lib.hid hp9l
              obtain ⟨n9, hn9⟩ : ∃ n9, p9.length = n9 := ⟨_, rfl⟩
              have hn9b : n9 ≤ 720 := by
                have h1 := congrArg List.length HM9.out
                rw [List.length_map, prm_len] at h1
                have := fac_le hl6
                omega
              rw [hn9]
              have HN9 := Lib.hid hn9
              have HOx5 := Lib.hid (HOx.out.ext HE5.out)
              have HE35 := Lib.hid (HE3.out.tr HE5.out)
              clear hb hc hf hz hO9 hm9 hh9 hin9 hp9l hn9 hle9 HOx
              obtain ⟨A8, c8, hv8, hle8, hcs⟩ := HOx5.out.cells
              subst hv8
              have HCs := Lib.hid hcs
              obtain ⟨ne, hne⟩ : ∃ ne, es.length = ne := ⟨_, rfl⟩
              rw [hne] at hes ⊢
              have HNe := Lib.hid hne
              obtain ⟨wa, hwa⟩ : ∃ wa, wa = w5 := ⟨_, rfl⟩
              subst hwa
              have HOn := Lib.hid (OutX.made wa (B := wa.heap.size) #[] 0 (Nat.le_refl _) (by omega) rfl)
              clear hcs hne
              go_wp2
              go_loopw [9, 10] (fun v i W => ∃ (n : Nat) (ns : List PX), n ≤ ne ∧ i = .int .i64 n ∧ OutX W wa.heap.size v ns ∧ HasX ns ∧ ns.map PX.rows = extV ((allL (ls.take j)).take n) pl ∧ Ext wa W) (fun _ i _ => ne - (intOf i).toNat)
              case atStart => exact ⟨0, [], Nat.zero_le _, rfl, HOn.out, HasX.nil, rfl, by (repeat' (first | (with_reducible exact Below.refl _ _) | (with_reducible refine Below.mono (by assumption) ?_) | (with_reducible refine Below.trans ?_ (Below.mono (by assumption) ?_)) | (with_reducible refine Below.alloc ?_ ?_ _) | (with_reducible refine Below.drew ?_) | (with_reducible refine below_drewN ?_ _) | (with_reducible refine Below.setCell ?_ ?_ _) | (simp only [World.size_alloc, World.size_setCell, World.size_drew, size_drewN]; omega) | omega))⟩
              case round =>
                obtain ⟨n, ns, hn, rfl, hON, hHN, hnm, hE6⟩ := hrel
                have HON := Lib.hid hON
                have HHN := Lib.hid hHN
                have HNm := Lib.hid hnm
                have HE6 := Lib.hid hE6
                have hz6 := hE6.size
                clear HOn hON hHN hnm hE6
                by_cases hlt2 : n < ne
                · have hni : (n : Int) < ne := by omega
                  obtain ⟨e, he⟩ : ∃ e, es[n]? = some e := ⟨es[n]'(by rw [HNe.out]; exact hlt2), List.getElem?_eq_getElem _⟩
                  obtain ⟨g8, hA8, hB8, hl8, hc8, hin8⟩ := HCs.out n e he
                  subst hA8
                  have HHe := Lib.hid (HHx.out e (List.mem_of_getElem? he))
                  have hR0 : (allL (ls.take j))[n]? = some e.rows := by rw [← HEm.out, List.getElem?_map, he]; rfl
                  have HTk := Lib.hid (extV_take (l := pl) hR0)
                  have HPt := Lib.hid (ext_part (out := allL (ls.take j)) (l := pl) (n + 1))
                  have hel : e.ps.length ≤ 3 := by
                    have h1 := all_rowsLen hR0
                    rw [List.length_take] at h1
                    unfold PX.rows at h1
                    rw [List.length_map] at h1
                    omega
                  have hq6 : ∀ q ∈ e.ps, q.xs.length ≤ 6 := fun q hq => all_rows6 HL6.out hR0 q.xs (by unfold PX.rows; exact List.mem_map.2 ⟨q, hq, rfl⟩)
                  have HQ6 := Lib.hid hq6
                  have HIn8 := Lib.hid hin8
                  have hxl2 : (extV ((allL (ls.take j)).take n) pl).length + n9 ≤ 200 := by
                    have h1 := HPt.out
                    rw [HTk.out, List.length_append] at h1
                    have h2 : (extO e.rows pl).length = n9 := by
                      unfold extO
                      rw [List.length_map, ← HM9.out, List.length_map, HN9.out]
                    have := HXl.out
                    omega
                  have HXl2 := Lib.hid hxl2
                  have HC8 := Lib.hid hc8
                  have HEl := Lib.hid hel
                  clear he hc8 hin8 hR0 hq6 hel hxl2
                  go_wp2
                  go_loopw [9, 11] (fun v i W => ∃ (q : Nat) (ms : List PX), q ≤ n9 ∧ i = .int .i64 q ∧ OutX W wa.heap.size v ms ∧ HasX ms ∧ ms.map PX.rows = extV ((allL (ls.take j)).take n) pl ++ (p9.take q).map (fun p => e.rows ++ [p.xs]) ∧ Ext wa W) (fun _ i _ => n9 - (intOf i).toNat)
                  case atStart => exact ⟨0, ns, Nat.zero_le _, rfl, HON.out, HHN.out, by rw [HNm.out]; simp, HE6.out⟩
                  case round =>
                    obtain ⟨q, ms, hq, rfl, hOM, hHM, hmm2, hE7⟩ := hrel
                    have HOM := Lib.hid hOM
                    have HHM := Lib.hid hHM
                    have HMm := Lib.hid hmm2
                    have HE7 := Lib.hid hE7
                    have hz7 := hE7.size
                    clear HON hOM hHM hmm2 hE7
                    by_cases hlt3 : q < n9
                    · have hqi : (q : Int) < n9 := by omega
                      obtain ⟨p, hp⟩ : ∃ p, p9[q]? = some p := ⟨p9[q]'(by rw [HN9.out]; exact hlt3), List.getElem?_eq_getElem _⟩
                      obtain ⟨g9, o9, hA9, _, hl9, hc9, hIp⟩ := HI9.out q p hp
                      obtain ⟨⟨gp, hgp⟩, hpc⟩ := HH9.out p (List.mem_of_getElem? hp)
                      have hp6 := HP9l.out p (List.mem_of_getElem? hp)
                      have HTq := Lib.hid (show (p9.take (q + 1)).map (fun p => e.rows ++ [p.xs]) = (p9.take q).map (fun p => e.rows ++ [p.xs]) ++ [e.rows ++ [p.xs]] by rw [List.take_add_one, hp]; simp)
                      obtain ⟨pA9, pc9, pxs⟩ := p
                      simp only at hA9 hgp hpc hp6 hIp
                      subst hA9
                      subst hgp
                      simp only [PR.cell] at hc9
                      have hml : ms.length ≤ 200 := by
                        have h1 := congrArg List.length HMm.out
                        rw [List.length_map, List.length_append, List.length_map, List.length_take] at h1
                        have := HXl2.out
                        omega
                      have hcq := HE7.out.keep hl9 hc9
                      have hc8w := HE7.out.keep hl8 HC8.out
                      unfold PX.cell at hc8w
                      have hadp := ints_add hIp
                      have HIp := Lib.hid hIp
                      have n9' : ∀ W, Ext wa W → ∀ i y, pxs[i]? = some y → W.cell? (Addr.add ⟨gp, 0, none⟩ i) = some (.int .i64 y) := fun W hW i y hi => by
                        obtain ⟨b', off', us, e, h1, h2, h3, h4, h5⟩ := HIp.out i y hi
                        cases e
                        exact news_ext hW h2 hadp i y hi
                      have HN9' := Lib.hid n9'
                      have CW := Lib.hid (fun W hW => l1OwnRowsInt_c e _ W (InX.ext HIn8.out hW) HHe.out HEl.out HQ6.out)
                      obtain ⟨wq, hwq⟩ : ∃ wq, wq = wr := ⟨_, rfl⟩
                      subst hwq
                      obtain ⟨vn, hvn⟩ : ∃ vn, vn = u9 := ⟨_, rfl⟩
                      subst hvn
                      have hl9q : g9 < wq.heap.size := by omega
                      have hl8q : g8 < wq.heap.size := by omega
                      have hvl : ∀ g, vn.ownBlock = some g → g < wq.heap.size := fun g hg => (HOM.out.lt g hg).2
                      have HVl := Lib.hid hvl
                      have hOa : Own1 (wq.alloc (.cells #[] 3)) wq.heap.size 3 (.slice (some ⟨wq.heap.size, 0, none⟩) 0 0) [] := Own1.made wq #[] 0 rfl (Nat.le_refl _) (by omega) rfl
                      have hc9a := hc9
                      have hc8a := HC8.out
                      unfold PX.cell at hc8a
                      clear hp hIp hvl hadp n9' hc9
                      go_upto_region 26 with (fail)
                      go_region_held3 (fun W => W.cell? ⟨g8, n, none⟩ = some (.slice e.A e.ps.length e.c) ∧ W.cell? ⟨g9, o9 + q, none⟩ = some (.slice (some ⟨gp, 0, none⟩) pxs.length pc9)) (first | go_keep | exact ⟨hE13.keep hl8 hc8a, hE13.keep hl9 hc9a⟩ | exact ⟨hE12.keep hl8q hc8w, hE12.keep hl9q hcq⟩ | exact ⟨hE11.keep hl8q hc8w, hE11.keep hl9q hcq⟩ | exact ⟨hE10.keep hl8q hc8w, hE10.keep hl9q hcq⟩) (first
                        | (go_at_call 18; with_reducible refine (CW.out _ (HE7.out.tr (by (repeat' (first | (with_reducible exact Below.refl _ _) | (with_reducible refine Below.mono (by assumption) ?_) | (with_reducible refine Below.trans ?_ (Below.mono (by assumption) ?_)) | (with_reducible refine Below.alloc ?_ ?_ _) | (with_reducible refine Below.drew ?_) | (with_reducible refine below_drewN ?_ _) | (with_reducible refine Below.setCell ?_ ?_ _) | (simp only [World.size_alloc, World.size_setCell, World.size_drew, size_drewN]; omega) | omega))))).mono ?_; rintro ee w10 ⟨v10, qs, rfl, hO10, hq10, hm10, hb10⟩
                           have hE10 : Ext wq w10 := Ext.tr (by (repeat' (first | (with_reducible exact Below.refl _ _) | (with_reducible refine Below.mono (by assumption) ?_) | (with_reducible refine Below.trans ?_ (Below.mono (by assumption) ?_)) | (with_reducible refine Below.alloc ?_ ?_ _) | (with_reducible refine Below.drew ?_) | (with_reducible refine below_drewN ?_ _) | (with_reducible refine Below.setCell ?_ ?_ _) | (simp only [World.size_alloc, World.size_setCell, World.size_drew, size_drewN]; omega) | omega))) hb10
                           have z10 := hE10.size
                           have hl10 : ∃ lo, wq.heap.size ≤ lo ∧ (lo ≠ wq.heap.size ∨ lo = wq.heap.size) ∧ OutR w10 wq.heap.size (fun b => lo ≤ b ∧ b < w10.heap.size) v10 qs := ⟨_, (by first | exact Nat.le_refl _ | (simp only [World.size_alloc, World.size_drew]; omega) | (have := hE11.size; omega)), (by omega), outR_lt hO10 (by first | exact Nat.le_refl _ | (simp only [World.size_alloc, World.size_drew]; omega) | (have := hE11.size; omega))⟩
                           have hR10 := outR_lt hO10 (show wq.heap.size ≤ _ by first | exact Nat.le_refl _ | (simp only [World.size_alloc, World.size_drew]; omega) | (have := hE11.size; omega))
                           clear hl10
                           have hOb : Own1 (w10.alloc (.cells #[] 3)) wq.heap.size 3 (.slice (some ⟨w10.heap.size, 0, none⟩) 0 0) [] := Own1.made w10 #[] 0 rfl z10 (by omega) rfl
                           clear hO10)
                        | (refine step_app1n rfl (.tmp 65) (.tmp 69) rfl wq.heap.size _ rfl [] (by first | (refine hOa.ext ?_; (repeat' (first | (with_reducible exact Below.refl _ _) | (with_reducible refine Below.mono (by assumption) ?_) | (with_reducible refine Below.trans ?_ (Below.mono (by assumption) ?_)) | (with_reducible refine Below.alloc ?_ ?_ _) | (with_reducible refine Below.drew ?_) | (with_reducible refine below_drewN ?_ _) | (with_reducible refine Below.setCell ?_ ?_ _) | (simp only [World.size_alloc, World.size_setCell, World.size_drew, size_drewN]; omega) | omega)); done) | (refine (hOa.ext (show Ext (wq.alloc (.cells #[] 3)) (wq.alloc (.cells #[] 3)).drew from by (repeat' (first | (with_reducible exact Below.refl _ _) | (with_reducible refine Below.mono (by assumption) ?_) | (with_reducible refine Below.trans ?_ (Below.mono (by assumption) ?_)) | (with_reducible refine Below.alloc ?_ ?_ _) | (with_reducible refine Below.drew ?_) | (with_reducible refine below_drewN ?_ _) | (with_reducible refine Below.setCell ?_ ?_ _) | (simp only [World.size_alloc, World.size_setCell, World.size_drew, size_drewN]; omega) | omega)))).ext (Ext.tr hb10 ?_); (repeat' (first | (with_reducible exact Below.refl _ _) | (with_reducible refine Below.mono (by assumption) ?_) | (with_reducible refine Below.trans ?_ (Below.mono (by assumption) ?_)) | (with_reducible refine Below.alloc ?_ ?_ _) | (with_reducible refine Below.drew ?_) | (with_reducible refine below_drewN ?_ _) | (with_reducible refine Below.setCell ?_ ?_ _) | (simp only [World.size_alloc, World.size_setCell, World.size_drew, size_drewN]; omega) | omega)); done) | (refine hOb.ext ?_; (repeat' (first | (with_reducible exact Below.refl _ _) | (with_reducible refine Below.mono (by assumption) ?_) | (with_reducible refine Below.trans ?_ (Below.mono (by assumption) ?_)) | (with_reducible refine Below.alloc ?_ ?_ _) | (with_reducible refine Below.drew ?_) | (with_reducible refine below_drewN ?_ _) | (with_reducible refine Below.setCell ?_ ?_ _) | (simp only [World.size_alloc, World.size_setCell, World.size_drew, size_drewN]; omega) | omega)); done)) ⟨gp, 0, none⟩ pxs.length _ pxs rfl rfl (HN9'.out _ (HE7.out.tr (by (repeat' (first | (with_reducible exact Below.refl _ _) | (with_reducible refine Below.mono (by assumption) ?_) | (with_reducible refine Below.trans ?_ (Below.mono (by assumption) ?_)) | (with_reducible refine Below.alloc ?_ ?_ _) | (with_reducible refine Below.drew ?_) | (with_reducible refine below_drewN ?_ _) | (with_reducible refine Below.setCell ?_ ?_ _) | (simp only [World.size_alloc, World.size_setCell, World.size_drew, size_drewN]; omega) | omega))))) (by simp only [List.length_nil]; omega) (by first | omega | (simp only [World.size_alloc, World.size_drew]; omega)) ?_
                           intro v11 w11 hO11 hg11 hat11
                           have hE11 : Ext wq w11 := by
                             refine Below.grown ?_ hg11 ?_ (fun g hg => by first | exact (World.ownsRow.lt hOa g hg).1 | exact (World.ownsRow.lt hOb g hg).1)
                             · (repeat' (first | (with_reducible exact Below.refl _ _) | (with_reducible refine Below.mono (by assumption) ?_) | (with_reducible refine Below.trans ?_ (Below.mono (by assumption) ?_)) | (with_reducible refine Below.alloc ?_ ?_ _) | (with_reducible refine Below.drew ?_) | (with_reducible refine below_drewN ?_ _) | (with_reducible refine Below.setCell ?_ ?_ _) | (simp only [World.size_alloc, World.size_setCell, World.size_drew, size_drewN]; omega) | omega))
                             · first | omega | (simp only [World.size_alloc, World.size_drew]; omega)
                           have z11 := hE11.size
                           obtain ⟨g11, d11, rfl, hg11l, _, hd11, _, _⟩ := own1_in hO11 (by
                             rcases hat11 with e | e
                             · exact ⟨_, e.trans rfl⟩
                             · exact ⟨_, e⟩)
                           first
                           | (refine have_of (OutR.lit (hR10.ext ?_) (hOb.ext ?_) hg11 (fun b hb => ?_)) (fun hR11 => ?_)
                              focus ((repeat' (first | (with_reducible exact Below.refl _ _) | (with_reducible refine Below.mono (by assumption) ?_) | (with_reducible refine Below.trans ?_ (Below.mono (by assumption) ?_)) | (with_reducible refine Below.alloc ?_ ?_ _) | (with_reducible refine Below.drew ?_) | (with_reducible refine below_drewN ?_ _) | (with_reducible refine Below.setCell ?_ ?_ _) | (simp only [World.size_alloc, World.size_setCell, World.size_drew, size_drewN]; omega) | omega)); done)
                              focus ((repeat' (first | (with_reducible exact Below.refl _ _) | (with_reducible refine Below.mono (by assumption) ?_) | (with_reducible refine Below.trans ?_ (Below.mono (by assumption) ?_)) | (with_reducible refine Below.alloc ?_ ?_ _) | (with_reducible refine Below.drew ?_) | (with_reducible refine below_drewN ?_ _) | (with_reducible refine Below.setCell ?_ ?_ _) | (simp only [World.size_alloc, World.size_setCell, World.size_drew, size_drewN]; omega) | omega)); done)
                              focus (have := hb.2; omega))
                           | (refine have_of (OutR.lit (hR10.ext ?_) ((hOa.ext (show Ext (wq.alloc (.cells #[] 3)) (wq.alloc (.cells #[] 3)).drew from by (repeat' (first | (with_reducible exact Below.refl _ _) | (with_reducible refine Below.mono (by assumption) ?_) | (with_reducible refine Below.trans ?_ (Below.mono (by assumption) ?_)) | (with_reducible refine Below.alloc ?_ ?_ _) | (with_reducible refine Below.drew ?_) | (with_reducible refine below_drewN ?_ _) | (with_reducible refine Below.setCell ?_ ?_ _) | (simp only [World.size_alloc, World.size_setCell, World.size_drew, size_drewN]; omega) | omega)))).ext (Ext.tr hb10 ?_)) hg11 (fun b hb => ?_)) (fun hR11 => ?_)
                              focus ((repeat' (first | (with_reducible exact Below.refl _ _) | (with_reducible refine Below.mono (by assumption) ?_) | (with_reducible refine Below.trans ?_ (Below.mono (by assumption) ?_)) | (with_reducible refine Below.alloc ?_ ?_ _) | (with_reducible refine Below.drew ?_) | (with_reducible refine below_drewN ?_ _) | (with_reducible refine Below.setCell ?_ ?_ _) | (simp only [World.size_alloc, World.size_setCell, World.size_drew, size_drewN]; omega) | omega)); done)
                              focus ((repeat' (first | (with_reducible exact Below.refl _ _) | (with_reducible refine Below.mono (by assumption) ?_) | (with_reducible refine Below.trans ?_ (Below.mono (by assumption) ?_)) | (with_reducible refine Below.alloc ?_ ?_ _) | (with_reducible refine Below.drew ?_) | (with_reducible refine below_drewN ?_ _) | (with_reducible refine Below.setCell ?_ ?_ _) | (simp only [World.size_alloc, World.size_setCell, World.size_drew, size_drewN]; omega) | omega)); done)
                              focus (have := hb.1; simp only [World.size_alloc, World.size_drew] at this; omega))
                           | skip)
                        | (refine step_appO rfl (.tmp 64) (.tmp 71) rfl wq.heap.size (fun b => wq.heap.size ≤ b) v10 rfl qs (by first | (refine (hR11.ext ?_).below (Nat.le_refl _) (fun b hb => (by have := hb.1; simp only [World.size_alloc, World.size_drew] at this; omega)); (repeat' (first | (with_reducible exact Below.refl _ _) | (with_reducible refine Below.mono (by assumption) ?_) | (with_reducible refine Below.trans ?_ (Below.mono (by assumption) ?_)) | (with_reducible refine Below.alloc ?_ ?_ _) | (with_reducible refine Below.drew ?_) | (with_reducible refine below_drewN ?_ _) | (with_reducible refine Below.setCell ?_ ?_ _) | (simp only [World.size_alloc, World.size_setCell, World.size_drew, size_drewN]; omega) | omega)); done) | (refine (hR10.ext ?_).below (Nat.le_refl _) (fun b hb => (by have := hb.1; (try simp only [World.size_alloc, World.size_drew] at this); (try have := hE11.size); omega)); (repeat' (first | (with_reducible exact Below.refl _ _) | (with_reducible refine Below.mono (by assumption) ?_) | (with_reducible refine Below.trans ?_ (Below.mono (by assumption) ?_)) | (with_reducible refine Below.alloc ?_ ?_ _) | (with_reducible refine Below.drew ?_) | (with_reducible refine below_drewN ?_ _) | (with_reducible refine Below.setCell ?_ ?_ _) | (simp only [World.size_alloc, World.size_setCell, World.size_drew, size_drewN]; omega) | omega)); done)) ⟨some ⟨g11, 0, none⟩, d11, pxs⟩ (by first | (refine row_apart (Own1.ext hO11 ?_) (hR11.ext ?_) hg11l <;> ((repeat' (first | (with_reducible exact Below.refl _ _) | (with_reducible refine Below.mono (by assumption) ?_) | (with_reducible refine Below.trans ?_ (Below.mono (by assumption) ?_)) | (with_reducible refine Below.alloc ?_ ?_ _) | (with_reducible refine Below.drew ?_) | (with_reducible refine below_drewN ?_ _) | (with_reducible refine Below.setCell ?_ ?_ _) | (simp only [World.size_alloc, World.size_setCell, World.size_drew, size_drewN]; omega) | omega)); done)) | (refine row_apart (Own1.ext hO11 ?_) (hR10.ext ?_) hg11l <;> ((repeat' (first | (with_reducible exact Below.refl _ _) | (with_reducible refine Below.mono (by assumption) ?_) | (with_reducible refine Below.trans ?_ (Below.mono (by assumption) ?_)) | (with_reducible refine Below.alloc ?_ ?_ _) | (with_reducible refine Below.drew ?_) | (with_reducible refine below_drewN ?_ _) | (with_reducible refine Below.setCell ?_ ?_ _) | (simp only [World.size_alloc, World.size_setCell, World.size_drew, size_drewN]; omega) | omega)); done))) _ rfl (by exact (litF _ _ _ 0).trans rfl) (qs_small hm10 HEl.out) (by first | (simp only [World.size_alloc, World.size_drew]; omega) | omega) ?_
                           intro v12 w12 hO12 hg12 hat12
                           have hE12 : Ext wq w12 := by
                             refine Below.grown ?_ hg12 ?_ (fun g hg => (hR10.lt g hg).1)
                             · (repeat' (first | (with_reducible exact Below.refl _ _) | (with_reducible refine Below.mono (by assumption) ?_) | (with_reducible refine Below.trans ?_ (Below.mono (by assumption) ?_)) | (with_reducible refine Below.alloc ?_ ?_ _) | (with_reducible refine Below.drew ?_) | (with_reducible refine below_drewN ?_ _) | (with_reducible refine Below.setCell ?_ ?_ _) | (simp only [World.size_alloc, World.size_setCell, World.size_drew, size_drewN]; omega) | omega))
                             · first | omega | (simp only [World.size_alloc, World.size_drew]; omega)
                           have z12 := hE12.size
                           obtain ⟨A12, c12, hv12, _, hin12⟩ := hO12.inx (T := fun b => wa.heap.size ≤ b ∧ some b ≠ vn.ownBlock) (fun b hb => ⟨Nat.le_trans hz7 hb, fun e => by
                             have h1 := HVl.out b e.symm
                             have h2 : wq.heap.size ≤ b := hb
                             omega⟩) (fun g hg => by
                             have h1 := (hO12.lt g hg).1
                             exact ⟨by omega, fun e => by have := HVl.out g e.symm; omega⟩)
                           subst hv12)
                        | (refine step_appX rfl (.tmp 59) (.tmp 73) rfl wa.heap.size vn rfl ms (HOM.out.ext (hE12.tr (by (repeat' (first | (with_reducible exact Below.refl _ _) | (with_reducible refine Below.mono (by assumption) ?_) | (with_reducible refine Below.trans ?_ (Below.mono (by assumption) ?_)) | (with_reducible refine Below.alloc ?_ ?_ _) | (with_reducible refine Below.drew ?_) | (with_reducible refine below_drewN ?_ _) | (with_reducible refine Below.setCell ?_ ?_ _) | (simp only [World.size_alloc, World.size_setCell, World.size_drew, size_drewN]; omega) | omega))))) ⟨A12, c12, qs ++ [⟨some ⟨g11, 0, none⟩, d11, pxs⟩]⟩ (hin12.ext (by (repeat' (first | (with_reducible exact Below.refl _ _) | (with_reducible refine Below.mono (by assumption) ?_) | (with_reducible refine Below.trans ?_ (Below.mono (by assumption) ?_)) | (with_reducible refine Below.alloc ?_ ?_ _) | (with_reducible refine Below.drew ?_) | (with_reducible refine below_drewN ?_ _) | (with_reducible refine Below.setCell ?_ ?_ _) | (simp only [World.size_alloc, World.size_setCell, World.size_drew, size_drewN]; omega) | omega)))) _ rfl (by first | exact (litF _ _ _ 0).trans rfl | exact (litF _ _ _ 0).trans (by simp [PX.cell])) (by omega) (by first | (simp only [World.size_alloc, World.size_drew]; omega) | omega) ?_
                           intro v13 w13 hO13 hg13 hat13
                           have hE13 : Ext wa w13 := by
                             refine Below.grown (HE7.out.tr (hE12.tr ?_)) hg13 ?_ (fun g hg => (HOM.out.lt g hg).1)
                             · (repeat' (first | (with_reducible exact Below.refl _ _) | (with_reducible refine Below.mono (by assumption) ?_) | (with_reducible refine Below.trans ?_ (Below.mono (by assumption) ?_)) | (with_reducible refine Below.alloc ?_ ?_ _) | (with_reducible refine Below.drew ?_) | (with_reducible refine below_drewN ?_ _) | (with_reducible refine Below.setCell ?_ ?_ _) | (simp only [World.size_alloc, World.size_setCell, World.size_drew, size_drewN]; omega) | omega))
                             · simp only [World.size_alloc, World.size_drew]; omega))
                      all_goals
                        have HO13 := Lib.hid hO13
                        have HE13 := Lib.hid hE13
                        have HQ10 := Lib.hid hq10
                        have HM10 := Lib.hid hm10
                        clear hO13 hE13 hq10 hm10
                        go_wp2
                        exact ⟨⟨q + 1, _, by omega, by go_num, HO13.out, HHM.out.app (fun q hq => by
                          rcases List.mem_append.1 hq with hq | hq
                          · exact HQ10.out q hq
                          · obtain rfl := List.mem_singleton.1 hq
                            exact ⟨_, rfl⟩), by
                          rw [List.map_append, HMm.out, HTq.out, List.append_assoc]
                          congr 2
                          show [PX.rows ⟨A12, c12, qs ++ [⟨some ⟨g11, 0, none⟩, d11, pxs⟩]⟩] = _
                          rw [← HM10.out]
                          simp [PX.rows], HE13.out⟩, by simp [intOf]; omega⟩
                    · obtain rfl : q = n9 := by omega
                      have hm3 : List.map PX.rows ms = extV ((allL (ls.take j)).take (n + 1)) pl := by
                        rw [HMm.out, HTk.out, show p9.take q = p9 from List.take_of_length_le (by rw [HN9.out]; exact Nat.le_refl _)]
                        unfold extO
                        rw [← HM9.out, List.map_map]
                        rfl
                      have HM3 := Lib.hid hm3
                      clear hm3
                      go_wp2
                      exact ⟨⟨n + 1, ms, by omega, by go_num, HOM.out, HHM.out, HM3.out, HE7.out⟩, by simp [intOf]; omega⟩
                · obtain rfl : n = ne := by omega
                  have hm3 : List.map PX.rows ns = allL (ls.take (j + 1)) := by
                    rw [HNm.out, allL_take HLk.out, List.take_of_length_le (by rw [← HEm.out, List.length_map, HNe.out]; exact Nat.le_refl _)]
                  have HM3 := Lib.hid hm3
                  clear hm3
                  have hz5 := HE35.out.size
                  have HF := Lib.hid (show OutX wr w0.heap.size u9 ns ∧ Ext w0 wr from ⟨HON.out.below hz5, HE35.out.tr HE6.out⟩)
                  go_wp2
                  exact ⟨⟨j + 1, ns, by omega, by go_num, HF.out.1, HHN.out, HM3.out, HF.out.2⟩, by simp [intOf]; omega⟩
            · have hR2 : es.map PX.rows = R := by rw [HEm.out, HR0.out, List.take_of_length_le (by rw [HLl.out]; omega)]
              have hji : ¬ ((j : Int) ≤ 2) := by omega
              obtain ⟨A8, c8, hv8, hle8, hcs⟩ := HOx.out.cells
              subst hv8
              have HF := Lib.hid (HOx.out.fresh (HE0.out.tr HE3.out) c8)
              rw [hR2] at HF
              clear hR2 hcs
              go_wp2
              go_ret
              exact HF.out
end Go.Proofs.Ytdgfipoibnjhaaa
