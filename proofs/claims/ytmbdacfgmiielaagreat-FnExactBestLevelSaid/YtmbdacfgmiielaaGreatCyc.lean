/-
  Contracts of the reference's CycleOf and l10Upto.
-/
import Derived.Test.YtmbdacfgmiielaaGreatGFar31
namespace Go.Proofs.YtmbdacfgmiielaaGreat
set_option linter.unusedSimpArgs false
set_option linter.unusedVariables false
set_option maxRecDepth 100000
open Go.RowKit

def bstep (s : Nat) (f : Nat → Int) (b : Int) (e : T3) : Int := if e.a = s ∧ 0 ≤ f e.b.toNat ∧ (b < 0 ∨ f e.b.toNat < b) then f e.b.toNat else b
/-- the least distance behind an edge from s, or -1 -/
def best (L : List T3) (f : Nat → Int) (s : Nat) : Int := L.foldl (bstep s f) (-1)
def nstep (a : Int) (f : Nat → Int) (left : Nat) (n : Int) (e : T3) : Int := if e.a = a ∧ f e.b.toNat = left then min n e.b else n
/-- the least number behind an edge from a that is just so far away, or m -/
def nxt (m : Nat) (L : List T3) (f : Nat → Int) (a : Int) (left : Nat) : Int := L.foldl (nstep a f left) m
def way (m : Nat) (L : List T3) (f : Nat → Int) : Nat → Int → List Int
  | 0, _ => []
  | l + 1, a => nxt m L f a (l + 1) :: way m L f l (nxt m L f a (l + 1))
theorem way_len (m : Nat) (L : List T3) (f : Nat → Int) : ∀ l a, (way m L f l a).length = l
  | 0, _ => rfl
  | l + 1, a => by simp [way, way_len m L f l]
def cycS (m : Nat) (L : List T3) (s : Nat) : Option (List Int) :=
  if best L (farT L s m) s < 0 then none else some ((s : Int) :: way m L (farT L s m) (best L (farT L s m) s).toNat s)
/-- the reference's cycle -/
def cycR (m : Nat) (L : List T3) : List Int := ((List.range m).findSome? (cycS m L)).getD []
def cycV (many : Int) (L : List T3) : List Int := if edgesValid many L = true then cycR many.toNat L else []
theorem fold_inv {α β : Type} {g : β → α → β} {P : β → Prop} (hg : ∀ b e, P b → P (g b e)) : ∀ (L : List α) b, P b → P (L.foldl g b)
  | [], _, h => h
  | e :: L, b, h => fold_inv hg L _ (hg b e h)
theorem best_range {f : Nat → Int} {m : Nat} (hf : ∀ v, -1 ≤ f v ∧ f v ≤ m) (L : List T3) (s : Nat) : -1 ≤ best L f s ∧ best L f s ≤ m := by
  unfold best
  refine fold_inv (P := fun b : Int => -1 ≤ b ∧ b ≤ m) (fun b e h => ?_) L _ ⟨by omega, by omega⟩
  unfold bstep
  split
  · exact hf _
  · exact h
theorem bstep_nat (s : Nat) (f : Nat → Int) (b : Int) (a y : Nat) (z : Int) : bstep s f b ⟨(a : Int), (y : Int), z⟩ = if (a : Int) = s ∧ 0 ≤ f y ∧ (b < 0 ∨ f y < b) then f y else b := by simp [bstep]
theorem nstep_nat (a0 : Int) (f : Nat → Int) (left : Nat) (n : Int) (a y : Nat) (z : Int) : nstep a0 f left n ⟨(a : Int), (y : Int), z⟩ = if (a : Int) = a0 ∧ f y = left then min n y else n := by simp [nstep]
theorem findSome_none {α : Type} {g : Nat → Option α} {m : Nat} (h : ∀ s, s < m → g s = none) : (List.range m).findSome? g = none := by
  rw [List.findSome?_eq_none_iff]
  intro x hx
  exact h x (List.mem_range.1 hx)
theorem findSome_at {α : Type} {g : Nat → Option α} {m s : Nat} (hs : s < m) (h : ∀ s', s' < s → g s' = none) {x : α} (hx : g s = some x) : (List.range m).findSome? g = some x := by
  have e : List.range m = List.range s ++ (s :: (List.range' (s + 1) (m - s - 1))) := by
    rw [List.range_eq_range', List.range_eq_range', show m = s + (1 + (m - s - 1)) by omega, ← List.range'_append_1, Nat.zero_add]
    congr 1
    rw [show 1 + (m - s - 1) = (m - s - 1) + 1 by omega, List.range'_succ]
    congr 2
    omega
  rw [e, List.findSome?_append, findSome_none h]
  simp [hx]

set_option maxHeartbeats 4000000 in
theorem specCycleOf_ok (many : Int) (L : List T3) (S : Nat → Prop) (A : Option Addr) (c : Nat) (w : World) (hx : Ops S w A L) (hv : edgesValid many L = true) :
    Calls Tryz.prog 65 #[.int .i64 many, .slice A L.length c] w (FreshI (cycR many.toNat L) w) := by
  have CV := fun w hx => specEdgesValid_c many L S A c w hx (by obtain ⟨m, _, _, h, _⟩ := edgesValid_iff hv; omega)
  rw [hv] at CV
  obtain ⟨m, rfl, hm6, hl, hval⟩ := edgesValid_iff hv
  have CV := Lib.hid CV
  have HV := Lib.hid (show EdM m L from hval)
  clear hv hval
  simp only [Int.toNat_natCast]
  have CF := fun t ht w hx => l9Far_c m t L S A c w hx hl hm6 ht HV.out
  have CF := Lib.hid CF
  go_enter Tryz.func65, Tryz.ntmps65
  go_wp2
  have hO : Own1 (w.alloc (.cells #[] 3)) w.heap.size 3 (.slice (some ⟨w.heap.size, 0, none⟩) 0 0) [] := Own1.made w _ 0 rfl (by omega) (by omega) (by simp)
  have HO := Lib.hid hO
  clear hO
  go_loopw [5, 6] (fun v i wr => ∃ s : Nat, s ≤ m ∧ i = .int .i64 s ∧ Own1 wr w.heap.size 3 v [] ∧ Ext w wr ∧ ∀ s', s' < s → cycS m L s' = none) (fun _ i _ => m - (intOf i).toNat)
  case atStart => exact ⟨0, Nat.zero_le _, rfl, HO.out, by (repeat' (first | (with_reducible exact Below.refl _ _) | (with_reducible refine Below.mono (by assumption) ?_) | (with_reducible refine Below.trans ?_ (Below.mono (by assumption) ?_)) | (with_reducible refine Below.alloc ?_ ?_ _) | (with_reducible refine Below.drew ?_) | (with_reducible refine below_drewN ?_ _) | (with_reducible refine Below.setCell ?_ ?_ _) | (simp only [World.size_alloc, World.size_setCell, World.size_drew, size_drewN]; omega) | omega)), fun s' h => by omega⟩
  case round =>
    obtain ⟨s, hs, rfl, hown, hE, hall⟩ := hrel
    have HA := Lib.hid hall
    have hEz := hE.size
    clear hall HO
    by_cases hlt : s < m
    · have hlt0 := hlt
      go_wp2_with (fail)
      go_at_call 64
      refine (CV.out _ (hx.ext hE)).mono ?_
      rintro e w1 ⟨rfl, hb⟩
      obtain ⟨hc, hf, hz, hs⟩ := bcell hb
      (try simp only [World.size_alloc, World.size_setCell, World.size_drew, size_drewN] at hs); (first | have l0 := Nat.lt_of_lt_of_le l0 (show _ ≤ w1.heap.size by omega) | have l0 : w.heap.size < w1.heap.size := (by omega) | skip); (try have l0e := Nat.le_of_lt l0); (try have l0f := Nat.le_add_right_of_le (k := 1) l0e); (try have l1 := Nat.lt_of_lt_of_le l1 (show _ ≤ w1.heap.size by omega)); (try have l1e := Nat.le_of_lt l1); (try have l1f := Nat.le_add_right_of_le (k := 1) l1e); (try have l2 := Nat.lt_of_lt_of_le l2 (show _ ≤ w1.heap.size by omega)); (try have l2e := Nat.le_of_lt l2); (try have l2f := Nat.le_add_right_of_le (k := 1) l2e); (try have l3 := Nat.lt_of_lt_of_le l3 (show _ ≤ w1.heap.size by omega)); (try have l3e := Nat.le_of_lt l3); (try have l3f := Nat.le_add_right_of_le (k := 1) l3e)
      have e1 := hE.tr hb
      have hown1 := hown.ext hb
      clear hown hc hf hz hs hb
      go_wp2_with (fail)
      refine (CF.out s hlt _ (hx.ext e1)).mono ?_
      rintro e w2 ⟨B, c', rfl, hF, hfB, hb⟩
      have e2 := e1.tr hb
      have hown2 := hown1.ext hb
      have hF2 := hF.within_hi
      have hz12 := hb.size
      have hz2 := e2.size
      have hoff : Off u5 w1.heap.size w2.heap.size := Off.of_lt (own1_lt hown1)
      have hge := fun v => farT_ge HV.out s m v
      have hcs : cycS m L s = if best L (farT L s m) s < 0 then none else some ((s : Int) :: way m L (farT L s m) (best L (farT L s m) s).toNat s) := rfl
      have hbr := best_range hge L s
      rw [fl_len]
      have HCS := Lib.hid hcs
      generalize farT L s m = f at hF2 hge hcs hbr HCS
      have hbd : best L f s = L.foldl (bstep s f) (-1) := rfl
      generalize best L f s = bs at hbr HCS hbd
      have HB := Lib.hid hbd
      have HG := Lib.hid hge
      have HF := Lib.hid hF2
      have hB0 : ∃ bb off, B = some ⟨bb, off, none⟩ ∧ (w1.heap.size ≤ bb ∧ bb < w2.heap.size) ∧ bb < w2.heap.size := hF2.off_ (by rw [fl_len]; omega)
      obtain ⟨bb, off, rfl, hbb, _⟩ := hB0
      clear hown1 hF hfB hb hcs hbd hge hF2
      go_wp2
      go_loop [8, 9] (fun v i => ∃ k : Nat, k ≤ L.length ∧ i = .int .i64 k ∧ v = .int .i64 ((L.take k).foldl (bstep s f) (-1))) (fun _ i => L.length - (intOf i).toNat)
      case atStart => exact ⟨0, Nat.zero_le _, rfl, rfl⟩
      case round =>
        obtain ⟨k, hk, rfl, rfl⟩ := hrel
        by_cases hlt2 : k < L.length
        · obtain ⟨x0, x1, x2, b2, off2, hxk, rfl, _, hb2, d0, d1, d2⟩ := (hx.ext e2).at_ hlt2
          obtain ⟨v1, v2, v3, v4, _⟩ := HV.out _ (List.mem_of_getElem? hxk)
          simp only at v1 v2 v3 v4
          have hft := fold_take (bstep s f) (-1) hxk
          generalize (L.take k).foldl (bstep s f) (-1) = b0 at hft ⊢
          obtain ⟨a, rfl⟩ := Int.eq_ofNat_of_zero_le v1
          obtain ⟨y, rfl⟩ := Int.eq_ofNat_of_zero_le v3
          have hy : y < m := by omega
          have cy := HF.out.cell (fl_get (f := f) hy)
          have hyi : (y : Int) < m := by omega
          rw [bstep_nat] at hft
          have HT := Lib.hid hft
          clear hft hxk
          generalize f y = fy at cy HT
          go_wp2
          all_goals (refine ⟨⟨k + 1, by omega, by go_num, ?_⟩, by simp [intOf]; omega⟩; rw [HT.out]; split)
          all_goals first | rfl | (exfalso; simp_all; done) | (exfalso; simp_all; omega)
        · obtain rfl : k = L.length := by omega
          rw [List.take_length, ← HB.out]
          by_cases hbs : bs < 0
          · have hno : cycS m L s = none := by rw [HCS.out, if_pos hbs]
            have hall2 : ∀ s', s' < s + 1 → cycS m L s' = none := fun s' h => by
              by_cases e : s' = s
              · subst e; exact hno
              · exact HA.out s' (by omega)
            have HA2 := Lib.hid hall2
            clear hno hall2
            go_wp2
            exact ⟨⟨s + 1, by omega, by go_num, hown2, e2, HA2.out⟩, by simp [intOf]; omega⟩
          · obtain ⟨l, rfl⟩ := Int.eq_ofNat_of_zero_le (show 0 ≤ bs by omega)
            have hyes : cycS m L s = some ((s : Int) :: way m L f l s) := by rw [HCS.out, if_neg hbs]; simp
            have hres : cycR m L = (s : Int) :: way m L f l s := by
              unfold cycR
              rw [findSome_at hlt (fun s' h => HA.out s' h) hyes]
              rfl
            have HR := Lib.hid hres
            clear hyes hres hbs
            have hl6 : l ≤ 6 := by omega
            go_wp2_with (at_builtin; refine wpList_append1_at _ rfl _ _ 45 rfl w.heap.size 3 Tryz.underlying45 infoInt rfl _ [] rfl (hown2.ext (by (repeat' (first | (with_reducible exact Below.refl _ _) | (with_reducible refine Below.mono (by assumption) ?_) | (with_reducible refine Below.trans ?_ (Below.mono (by assumption) ?_)) | (with_reducible refine Below.alloc ?_ ?_ _) | (with_reducible refine Below.drew ?_) | (with_reducible refine below_drewN ?_ _) | (with_reducible refine Below.setCell ?_ ?_ _) | (simp only [World.size_alloc, World.size_setCell, World.size_drew, size_drewN]; omega) | omega)))) _ s rfl ?_ ?_ ?_ ?_)
            all_goals try (first | omega | (simp only [World.size_alloc]; omega) | (go_simp; done))
            intro v' w3 hown3 hgrow hat
            have hEb : Ext w2 (w2.alloc (.cells #[.int .i64 s] 3)) := by (repeat' (first | (with_reducible exact Below.refl _ _) | (with_reducible refine Below.mono (by assumption) ?_) | (with_reducible refine Below.trans ?_ (Below.mono (by assumption) ?_)) | (with_reducible refine Below.alloc ?_ ?_ _) | (with_reducible refine Below.drew ?_) | (with_reducible refine below_drewN ?_ _) | (with_reducible refine Below.setCell ?_ ?_ _) | (simp only [World.size_alloc, World.size_setCell, World.size_drew, size_drewN]; omega) | omega))
            have e3 : Ext w w3 := Below.grown (e2.tr hEb) hgrow (e2.tr hEb).size (fun g hg => own1_block hown2 g hg)
            have hF3 := Ints.off (HF.out.ext hEb) hgrow hoff
            have hoff3 := hoff.step hat (by first | omega | (simp only [World.size_alloc]; omega))
            have hz3 := hgrow.size
            simp only [World.size_alloc] at hz3
            have HF3 := Lib.hid hF3
            clear hgrow hat hown2 hoff hF3 HF hEb
            try simp only [List.nil_append] at hown3
            go_wp2
            go_loopw [5, 10, 11] (fun v a i wr => ∃ (q : Nat) (a0 : Int) (o : List Int), q ≤ l ∧ i = .int .i64 q ∧ a = .int .i64 a0 ∧ Own1 wr w.heap.size 3 v o ∧ o ++ way m L f q a0 = (s : Int) :: way m L f l s ∧ Ext w wr ∧ Ints (fun b => w1.heap.size ≤ b ∧ b < w2.heap.size) wr (some ⟨bb, off, none⟩) (fl m f) ∧ Off v w1.heap.size w2.heap.size ∧ w2.heap.size ≤ wr.heap.size) (fun _ _ i _ => (intOf i).toNat)
            case atStart => exact ⟨l, s, _, Nat.le_refl _, rfl, rfl, hown3, rfl, e3, HF3.out, hoff3, by omega⟩
            case round =>
              obtain ⟨q, a0, o, hq, rfl, rfl, hown4, hway, hE4, hF4, hoff4, hz4⟩ := hrel
              clear hown3 HF3 hoff3
              have HF4 := Lib.hid hF4
              have hE4z := hE4.size
              have hol : o.length ≤ l + 1 := by
                have := congrArg List.length hway
                rw [List.length_append, way_len, List.length_cons, way_len] at this
                omega
              by_cases hq0 : 0 < q
              · obtain ⟨p, rfl⟩ : ∃ p, q = p + 1 := ⟨q - 1, by omega⟩
                have hwy : way m L f (p + 1) a0 = nxt m L f a0 (p + 1) :: way m L f p (nxt m L f a0 (p + 1)) := rfl
                rw [hwy] at hway
                have hnx : nxt m L f a0 (p + 1) = L.foldl (nstep a0 f (p + 1)) m := rfl
                have HW := Lib.hid hway
                have HNX := Lib.hid hnx
                clear hF4 hwy hway hnx
                go_wp2
                go_loop [12, 13] (fun v i => ∃ k : Nat, k ≤ L.length ∧ i = .int .i64 k ∧ v = .int .i64 ((L.take k).foldl (nstep a0 f (p + 1)) m)) (fun _ i => L.length - (intOf i).toNat)
                case atStart => exact ⟨0, Nat.zero_le _, rfl, rfl⟩
                case round =>
                  obtain ⟨k, hk, rfl, rfl⟩ := hrel
                  by_cases hlt2 : k < L.length
                  · obtain ⟨x0, x1, x2, b2, off2, hxk, rfl, _, hb2, d0, d1, d2⟩ := (hx.ext hE4).at_ hlt2
                    obtain ⟨v1, v2, v3, v4, _⟩ := HV.out _ (List.mem_of_getElem? hxk)
                    simp only at v1 v2 v3 v4
                    have hft := fold_take (nstep a0 f (p + 1)) (m : Int) hxk
                    generalize (L.take k).foldl (nstep a0 f (p + 1)) (m : Int) = b0 at hft ⊢
                    obtain ⟨a, rfl⟩ := Int.eq_ofNat_of_zero_le v1
                    obtain ⟨y, rfl⟩ := Int.eq_ofNat_of_zero_le v3
                    have hy : y < m := by omega
                    have cy := HF4.out.cell (fl_get (f := f) hy)
                    have hyi : (y : Int) < m := by omega
                    rw [nstep_nat] at hft
                    have HT := Lib.hid hft
                    clear hft hxk
                    generalize f y = fy at cy HT
                    go_wp2
                    all_goals (refine ⟨⟨k + 1, by omega, by go_num, ?_⟩, by simp [intOf]; omega⟩; rw [HT.out]; split)
                    all_goals first | rfl | omega | (exfalso; simp_all; done) | (exfalso; simp_all; omega)
                  · obtain rfl : k = L.length := by omega
                    rw [List.take_length, ← HNX.out]
                    have HW2 := Lib.hid HW.out
                    clear HW
                    generalize nxt m L f a0 (p + 1) = nn at HW2 ⊢
                    go_wp2_with (at_builtin; refine wpList_append1_at _ rfl _ _ 45 rfl w.heap.size 3 Tryz.underlying45 infoInt rfl _ o rfl (hown4.ext (by (repeat' (first | (with_reducible exact Below.refl _ _) | (with_reducible refine Below.mono (by assumption) ?_) | (with_reducible refine Below.trans ?_ (Below.mono (by assumption) ?_)) | (with_reducible refine Below.alloc ?_ ?_ _) | (with_reducible refine Below.drew ?_) | (with_reducible refine below_drewN ?_ _) | (with_reducible refine Below.setCell ?_ ?_ _) | (simp only [World.size_alloc, World.size_setCell, World.size_drew, size_drewN]; omega) | omega)))) _ nn rfl ?_ ?_ ?_ ?_)
                    all_goals try (first | omega | (simp only [World.size_alloc]; omega) | (go_simp; done))
                    intro v' w5 hown5 hgrow hat
                    have hEb : Ext wr (wr.alloc (.cells #[.int .i64 nn] 3)) := by (repeat' (first | (with_reducible exact Below.refl _ _) | (with_reducible refine Below.mono (by assumption) ?_) | (with_reducible refine Below.trans ?_ (Below.mono (by assumption) ?_)) | (with_reducible refine Below.alloc ?_ ?_ _) | (with_reducible refine Below.drew ?_) | (with_reducible refine below_drewN ?_ _) | (with_reducible refine Below.setCell ?_ ?_ _) | (simp only [World.size_alloc, World.size_setCell, World.size_drew, size_drewN]; omega) | omega))
                    have hE5 : Ext w w5 := Below.grown (hE4.tr hEb) hgrow (hE4.tr hEb).size (fun g hg => own1_block hown4 g hg)
                    have hF5 := Ints.off (HF4.out.ext hEb) hgrow hoff4
                    have hoff5 := hoff4.step hat (by first | omega | (simp only [World.size_alloc]; omega))
                    have hz5 := hgrow.size
                    simp only [World.size_alloc] at hz5
                    have HF5 := Lib.hid hF5
                    clear hgrow hat hown4 hoff4 hF5 HF4 hEb
                    go_wp2
                    go_roundw
                    case measure => simp [intOf]
                    case rel => exact ⟨p, nn, _, by omega, by go_num, rfl, hown5, by rw [List.append_assoc]; exact HW2.out, hE5, HF5.out, hoff5, by omega⟩
              · obtain rfl : q = 0 := by omega
                have hw0 : o = (s : Int) :: way m L f l s := by simpa [way] using hway
                rw [← HR.out] at hw0
                subst hw0
                have hfr := hown4.fresh (Nat.le_refl _) hE4
                go_wp2
                go_ret
                exact hfr
    · obtain rfl : s = m := by omega
      have hres : cycR s L = [] := by
        unfold cycR
        rw [findSome_none (fun s' h => HA.out s' h)]
        rfl
      have hfr := hown.fresh (w := w) (Nat.le_refl _) hE
      rw [← hres] at hfr
      clear hres
      go_wp2
      go_ret
      exact hfr

set_option maxHeartbeats 1000000 in
theorem specCycleOf_c (many : Int) (L : List T3) (S : Nat → Prop) (A : Option Addr) (c : Nat) (w : World) (hx : Ops S w A L) (hn : L.length ≤ 1048576) :
    Calls Tryz.prog 65 #[.int .i64 many, .slice A L.length c] w (FreshI (cycV many L) w) := by
  unfold cycV
  cases hv : edgesValid many L with
  | true => rw [if_pos rfl]; exact specCycleOf_ok many L S A c w hx hv
  | false =>
    rw [if_neg (by simp)]
    have CV := fun w hx => specEdgesValid_c many L S A c w hx hn
    rw [hv] at CV
    have CV := Lib.hid CV
    clear hv
    go_enter Tryz.func65, Tryz.ntmps65
    go_wp2
    have hO : Own1 (w.alloc (.cells #[] 3)) w.heap.size 3 (.slice (some ⟨w.heap.size, 0, none⟩) 0 0) [] := Own1.made w _ 0 rfl (by omega) (by omega) (by simp)
    have HO := Lib.hid hO
    clear hO
    go_loopw [5, 6] (fun v i wr => i = .int .i64 0 ∧ Own1 wr w.heap.size 3 v [] ∧ Ext w wr) (fun _ _ _ => 0)
    case atStart => exact ⟨rfl, HO.out, by (repeat' (first | (with_reducible exact Below.refl _ _) | (with_reducible refine Below.mono (by assumption) ?_) | (with_reducible refine Below.trans ?_ (Below.mono (by assumption) ?_)) | (with_reducible refine Below.alloc ?_ ?_ _) | (with_reducible refine Below.drew ?_) | (with_reducible refine below_drewN ?_ _) | (with_reducible refine Below.setCell ?_ ?_ _) | (simp only [World.size_alloc, World.size_setCell, World.size_drew, size_drewN]; omega) | omega))⟩
    case round =>
      obtain ⟨rfl, hown, hE⟩ := hrel
      by_cases hlt : 0 < many
      · have hlt0 := hlt
        go_wp2_with (fail)
        go_at_call 64
        refine (CV.out _ (hx.ext hE)).mono ?_
        rintro e w1 ⟨rfl, hb⟩
        obtain ⟨hc, hf, hz, hs⟩ := bcell hb
        (try simp only [World.size_alloc, World.size_setCell, World.size_drew, size_drewN] at hs); (first | have l0 := Nat.lt_of_lt_of_le l0 (show _ ≤ w1.heap.size by omega) | have l0 : w.heap.size < w1.heap.size := (by omega) | skip); (try have l0e := Nat.le_of_lt l0); (try have l0f := Nat.le_add_right_of_le (k := 1) l0e); (try have l1 := Nat.lt_of_lt_of_le l1 (show _ ≤ w1.heap.size by omega)); (try have l1e := Nat.le_of_lt l1); (try have l1f := Nat.le_add_right_of_le (k := 1) l1e); (try have l2 := Nat.lt_of_lt_of_le l2 (show _ ≤ w1.heap.size by omega)); (try have l2e := Nat.le_of_lt l2); (try have l2f := Nat.le_add_right_of_le (k := 1) l2e); (try have l3 := Nat.lt_of_lt_of_le l3 (show _ ≤ w1.heap.size by omega)); (try have l3e := Nat.le_of_lt l3); (try have l3f := Nat.le_add_right_of_le (k := 1) l3e)
        go_wp2
        go_ret
        exact (hown.ext hb).fresh (Nat.le_refl _) (hE.tr hb)
      · go_wp2
        go_ret
        exact hown.fresh (Nat.le_refl _) hE

/-- the edges whose kinds are at most a kind -/
def upto (kind : Int) (L : List T3) : List T3 := L.filter fun e => decide (e.c ≤ kind)
theorem upto_take {kind : Int} {L : List T3} {k : Nat} {e : T3} (h : L[k]? = some e) : upto kind (L.take (k + 1)) = if e.c ≤ kind then upto kind (L.take k) ++ [e] else upto kind (L.take k) := by
  unfold upto
  rw [List.take_add_one, h]
  simp only [Option.toList, List.filter_append, List.filter_cons, List.filter_nil]
  split <;> simp_all
theorem upto_len (kind : Int) (L : List T3) : (upto kind L).length ≤ L.length := List.length_filter_le _ _
theorem infoEdge : (Tryz.prog.info? 76).map (fun i => (i.zero, i.size, i.bytes)) = some (some (.agg #[.int .i64 0, .int .i64 0, .int .i64 0]), 3, 24) := by kernel_rfl
set_option maxHeartbeats 2000000 in
theorem l10Upto_c (kind : Int) (L : List T3) (S : Nat → Prop) (A : Option Addr) (c : Nat) (w : World) (hx : Ops S w A L) (hn : L.length ≤ 1048576) :
    Calls Tryz.prog 66 #[.slice A L.length c, .int .i64 kind] w (Fresh (upto kind L) w) := by
  go_enter Tryz.func66, Tryz.ntmps66
  go_wp2
  have hO : Own3 (w.alloc (.cells #[] 76)) w.heap.size 76 (.slice (some ⟨w.heap.size, 0, none⟩) 0 0) (upto kind (L.take 0)) := Own3.made w _ 0 rfl (by omega) (by omega) (by simp)
  have HO := Lib.hid hO
  clear hO
  go_loopw [5, 6] (fun v i wr => ∃ k : Nat, k ≤ L.length ∧ i = .int .i64 k ∧ Own3 wr w.heap.size 76 v (upto kind (L.take k)) ∧ Ext w wr) (fun _ i _ => L.length - (intOf i).toNat)
  case atStart => exact ⟨0, Nat.zero_le _, rfl, HO.out, by (repeat' (first | (with_reducible exact Below.refl _ _) | (with_reducible refine Below.mono (by assumption) ?_) | (with_reducible refine Below.trans ?_ (Below.mono (by assumption) ?_)) | (with_reducible refine Below.alloc ?_ ?_ _) | (with_reducible refine Below.drew ?_) | (with_reducible refine below_drewN ?_ _) | (with_reducible refine Below.setCell ?_ ?_ _) | (simp only [World.size_alloc, World.size_setCell, World.size_drew, size_drewN]; omega) | omega))⟩
  case round =>
    obtain ⟨k, hk, rfl, hown, hE⟩ := hrel
    have hEz := hE.size
    clear HO
    by_cases hlt : k < L.length
    · obtain ⟨x0, x1, x2, b, off, hxk, rfl, _, hb0, c0, c1, c2⟩ := (hx.ext hE).at_ hlt
      have hst := upto_take (kind := kind) hxk
      have hul := upto_len kind (L.take k)
      rw [List.length_take] at hul
      have HS := Lib.hid hst
      clear hst hxk
      by_cases hc : x2 ≤ kind
      · have HS2 := Lib.hid (HS.out.trans (if_pos hc))
        go_wp2_with (at_builtin; refine wpList_append3 _ rfl _ _ 55 rfl w.heap.size 76 Tryz.underlying55 infoEdge rfl _ (upto kind (L.take k)) rfl (hown.ext (by (repeat' (first | (with_reducible exact Below.refl _ _) | (with_reducible refine Below.mono (by assumption) ?_) | (with_reducible refine Below.trans ?_ (Below.mono (by assumption) ?_)) | (with_reducible refine Below.alloc ?_ ?_ _) | (with_reducible refine Below.drew ?_) | (with_reducible refine below_drewN ?_ _) | (with_reducible refine Below.setCell ?_ ?_ _) | (simp only [World.size_alloc, World.size_setCell, World.size_drew, size_drewN]; omega) | omega)))) _ x0 x1 x2 rfl ?_ ?_ ?_ ?_ ?_ ?_)
        all_goals try (first | omega | (simp only [World.size_alloc]; omega) | (go_simp; done))
        intro v' w' hown' hgrow
        rw [← HS2.out] at hown'
        have hE2 : Ext w w' := Below.grown (w := wr.alloc (.cells #[.int .i64 x0, .int .i64 x1, .int .i64 x2] 76)) (by (repeat' (first | (with_reducible exact Below.refl _ _) | (with_reducible refine Below.mono (by assumption) ?_) | (with_reducible refine Below.trans ?_ (Below.mono (by assumption) ?_)) | (with_reducible refine Below.alloc ?_ ?_ _) | (with_reducible refine Below.drew ?_) | (with_reducible refine below_drewN ?_ _) | (with_reducible refine Below.setCell ?_ ?_ _) | (simp only [World.size_alloc, World.size_setCell, World.size_drew, size_drewN]; omega) | omega))) hgrow (by simp only [World.size_alloc]; omega) (fun g hg => (World.ownsRow.lt hown g hg).1)
        clear hown hgrow
        go_wp2
        go_roundw
        case measure => simp [intOf]; omega
        case rel => exact ⟨k + 1, by omega, by go_num, hown', hE2⟩
      · have HS2 := Lib.hid (HS.out.trans (if_neg hc))
        go_wp2
        exact ⟨⟨k + 1, by omega, by go_num, by rw [HS2.out]; exact hown, hE⟩, by simp [intOf]; omega⟩
    · obtain rfl : k = L.length := by omega
      rw [List.take_length] at hown
      have hfr := hown.fresh (Nat.le_refl _) hE
      go_wp2
      go_ret
      exact hfr
end Go.Proofs.YtmbdacfgmiielaaGreat
