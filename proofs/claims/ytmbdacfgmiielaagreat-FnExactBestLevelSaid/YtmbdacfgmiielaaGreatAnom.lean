/-
  Contracts of HasAnomaly and AnomaliesOf, the reference's and the program's.
-/
import Derived.Test.YtmbdacfgmiielaaGreatCyc
import Derived.Deep.RegionHeld3
namespace Go.Proofs.YtmbdacfgmiielaaGreat
set_option linter.unusedSimpArgs false
set_option linter.unusedVariables false
set_option maxRecDepth 100000
open Go.RowKit

theorem best_nn {f : Nat → Int} (L : List T3) (s : Nat) : 0 ≤ best L f s ↔ ∃ e ∈ L, e.a = s ∧ 0 ≤ f e.b.toNat := by
  have key : ∀ (M : List T3) (b : Int), 0 ≤ M.foldl (bstep s f) b ↔ 0 ≤ b ∨ ∃ e ∈ M, e.a = s ∧ 0 ≤ f e.b.toNat := by
    intro M
    induction M with
    | nil => intro b; simp
    | cons e M ih =>
      intro b
      rw [List.foldl_cons, ih]
      unfold bstep
      constructor
      · rintro (h | ⟨e', he, h⟩)
        · split at h
          · rename_i hc
            exact .inr ⟨e, by simp, hc.1, hc.2.1⟩
          · exact .inl h
        · exact .inr ⟨e', by simp [he], h⟩
      · rintro (h | ⟨e', he, h1, h2⟩)
        · left
          split
          · rename_i hc; exact hc.2.1
          · exact h
        · rcases List.mem_cons.1 he with rfl | he
          · left
            split
            · exact h2
            · rename_i hc
              rcases Int.lt_or_le b 0 with hb | hb
              · exact absurd ⟨h1, h2, .inl hb⟩ hc
              · exact hb
          · exact .inr ⟨e', he, h1, h2⟩
  unfold best
  rw [key]
  constructor
  · rintro (h | h)
    · omega
    · exact h
  · exact .inr
theorem trans_first {α : Type} {r : α → α → Prop} {a b : α} (h : Relation.TransGen r a b) : ∃ u, r a u ∧ (u = b ∨ Relation.TransGen r u b) := by
  induction h with
  | single h => exact ⟨_, h, .inl rfl⟩
  | tail h1 h2 ih =>
    obtain ⟨u, h3, h4⟩ := ih
    refine ⟨u, h3, .inr ?_⟩
    rcases h4 with rfl | h4
    · exact .single h2
    · exact .tail h4 h2
/-- a cycle is found just where there is one -/
theorem cycS_some {m : Nat} {L : List T3} (hL : EdM m L) {s : Nat} (hs : s < m) : cycS m L s = none ↔ ¬ Relation.TransGen (Ed L) s s := by
  have hfi := fun v => far_iff (L := L) hs (fun e he => by have := hL e he; omega) v
  have hb := best_nn (f := farT L s m) L s
  unfold cycS
  have h1 : 0 ≤ best L (farT L s m) s ↔ Relation.TransGen (Ed L) s s := by
    rw [hb]
    constructor
    · rintro ⟨e, he, h1, h2⟩
      have hv := hL e he
      have hE : Ed L s e.b.toNat := ⟨e, he, h1, by omega⟩
      rcases (hfi _).1 h2 with h3 | h3
      · rw [h3] at hE; exact .single hE
      · exact Relation.TransGen.trans (.single hE) h3
    · intro h
      obtain ⟨u, ⟨e, he, h1, h2⟩, h3⟩ := trans_first h
      have hv := hL e he
      refine ⟨e, he, h1, (hfi _).2 ?_⟩
      rw [show e.b.toNat = u by omega]
      exact h3
  split
  · rename_i hc
    exact ⟨fun _ h => by have := h1.2 h; omega, fun _ => rfl⟩
  · rename_i hc
    exact ⟨fun h => by simp at h, fun h => absurd (h1.1 (by omega)) h⟩
theorem cycS_ne {m : Nat} {L : List T3} {s : Nat} {x : List Int} (h : cycS m L s = some x) : 0 < x.length := by
  unfold cycS at h
  split at h
  · cases h
  · cases h; simp
theorem cycR_iff {m : Nat} {L : List T3} (hL : EdM m L) : 0 < (cycR m L).length ↔ ∃ s, s < m ∧ Relation.TransGen (Ed L) s s := by
  unfold cycR
  constructor
  · intro h
    cases hf : (List.range m).findSome? (cycS m L) with
    | none => rw [hf] at h; simp at h
    | some x =>
      obtain ⟨s, hs, hx⟩ := List.exists_of_findSome?_eq_some hf
      have hsm := List.mem_range.1 hs
      exact ⟨s, hsm, Classical.byContradiction fun hn => by rw [(cycS_some hL hsm).2 hn] at hx; cases hx⟩
  · rintro ⟨s, hs, ht⟩
    cases hf : (List.range m).findSome? (cycS m L) with
    | none =>
      rw [List.findSome?_eq_none_iff] at hf
      exact absurd ht ((cycS_some hL hs).1 (hf s (List.mem_range.2 hs)))
    | some x =>
      obtain ⟨s', _, hx⟩ := List.exists_of_findSome?_eq_some hf
      exact cycS_ne hx
theorem arou_iff {f : Nat → Nat} (hf : Low f) : arou f = true ↔ ∃ i, i < 6 ∧ Relation.TransGen (Bit f) i i := by
  unfold arou
  rw [List.any_eq_true]
  constructor
  · rintro ⟨i, hi, h⟩
    have h6 := List.mem_range.1 hi
    exact ⟨i, h6, (clo_iff hf i i).1 ⟨h6, h⟩⟩
  · rintro ⟨i, h6, h⟩
    exact ⟨i, List.mem_range.2 h6, ((clo_iff hf i i).2 h).2⟩
/-- rows of edges hold just the edges -/
theorem bit_ed {ks : List Int} {L M : List T3} (hL : ∀ e ∈ L, ed6 e) (hM : ∀ e, e ∈ M ↔ e ∈ L ∧ e.c ∈ ks) : Bit (rowsOf ks L) = Ed M := by
  funext i j
  apply propext
  have hs := (rows_spec ks L hL).2
  unfold Bit Ed
  constructor
  · rintro ⟨hi, hb⟩
    obtain ⟨e, he, h1, h2, h3⟩ := (hs i j hi).1 hb
    exact ⟨e, (hM e).2 ⟨he, h1⟩, h2, h3⟩
  · rintro ⟨e, he, h1, h2⟩
    obtain ⟨he1, he2⟩ := (hM e).1 he
    have := hL e he1
    unfold ed6 at this
    have hi : i < 6 := by omega
    exact ⟨hi, (hs i j hi).2 ⟨e, he1, he2, h1, h2⟩⟩
theorem edM_ed6 {m : Nat} {L : List T3} (hm : m ≤ 6) (hL : EdM m L) : ∀ e ∈ L, ed6 e := fun e he => by have := hL e he; unfold ed6; omega
theorem upto_mem {m : Nat} {L : List T3} (hL : EdM m L) {kind : Int} {ks : List Int} (hk : ∀ c : Int, 1 ≤ c → c ≤ 4 → (c ≤ kind ↔ c ∈ ks)) (e : T3) : e ∈ upto kind L ↔ e ∈ L ∧ e.c ∈ ks := by
  unfold upto
  rw [List.mem_filter]
  constructor
  · rintro ⟨he, hc⟩
    obtain ⟨_, _, _, _, _, h1, h2⟩ := hL e he
    exact ⟨he, (hk _ h1 h2).1 (by simpa using hc)⟩
  · rintro ⟨he, hc⟩
    obtain ⟨_, _, _, _, _, h1, h2⟩ := hL e he
    exact ⟨he, by simpa using (hk _ h1 h2).2 hc⟩
theorem upto_edM {m : Nat} {L : List T3} (hL : EdM m L) (kind : Int) : EdM m (upto kind L) := fun e he => hL e ((List.mem_filter.1 he).1)
theorem upto_valid {many : Int} {L : List T3} (h : edgesValid many L = true) (kind : Int) : edgesValid many (upto kind L) = true := by
  unfold edgesValid at h ⊢
  simp only [Bool.and_eq_true, List.all_eq_true, decide_eq_true_eq] at h ⊢
  exact ⟨fun e he => h.1 e ((List.mem_filter.1 he).1), h.2.1, Nat.le_trans (upto_len kind L) h.2.2⟩
/-- the reference's cycle over the edges up to a kind, and the program's over rows -/
theorem cyc_eq {m : Nat} {L : List T3} (hm : m ≤ 6) (hL : EdM m L) {kind : Int} {ks : List Int} (hk : ∀ c : Int, 1 ≤ c → c ≤ 4 → (c ≤ kind ↔ c ∈ ks)) : decide (0 < (cycR m (upto kind L)).length) = arou (rowsOf ks L) := by
  rw [Bool.eq_iff_iff, decide_eq_true_eq, cycR_iff (upto_edM hL kind), arou_iff (rowsOf_low ks L (edM_ed6 hm hL)), bit_ed (edM_ed6 hm hL) (upto_mem hL hk)]
  constructor
  · rintro ⟨s, hs, h⟩
    exact ⟨s, by omega, h⟩
  · rintro ⟨i, _, h⟩
    obtain ⟨u, ⟨e, he, h1, _⟩, _⟩ := trans_first h
    have := upto_edM hL kind e he
    exact ⟨i, by omega, h⟩
theorem kinds1 : ∀ c : Int, 1 ≤ c → c ≤ 4 → (c ≤ 1 ↔ c ∈ ([1] : List Int)) := by
  intro c h1 h2
  simp only [List.mem_cons, List.not_mem_nil, or_false]
  omega
theorem kinds2 : ∀ c : Int, 1 ≤ c → c ≤ 4 → (c ≤ 2 ↔ c ∈ ([1, 2] : List Int)) := by
  intro c h1 h2
  simp only [List.mem_cons, List.not_mem_nil, or_false]
  omega
theorem kinds3 : ∀ c : Int, 1 ≤ c → c ≤ 4 → (c ≤ 3 ↔ c ∈ ([1, 2, 3] : List Int)) := by
  intro c h1 h2
  simp only [List.mem_cons, List.not_mem_nil, or_false]
  omega

/-- an edge of the kind 3 that flows lead back -/
def single3 (L : List T3) (e : T3) : Bool := e.c == 3 && (clo (rowsOf [1, 2] L) e.b.toNat).testBit e.a.toNat
theorem single3_far {m : Nat} {L : List T3} (hm : m ≤ 6) (hL : EdM m L) {e : T3} (he : e ∈ L) : single3 L e = (e.c == 3 && decide (0 ≤ farT (upto 2 L) e.a.toNat m e.b.toNat)) := by
  unfold single3
  congr 1
  obtain ⟨h1, h2, h3, h4, h5, _⟩ := hL e he
  have hfi := far_iff (L := upto 2 L) (m := m) (t := e.a.toNat) (by omega) (fun e he => by have := upto_edM hL 2 e he; omega) e.b.toNat
  have hci := clo_iff (rowsOf_low [1, 2] L (edM_ed6 hm hL)) e.b.toNat e.a.toNat
  rw [bit_ed (edM_ed6 hm hL) (upto_mem hL kinds2)] at hci
  rw [Bool.eq_iff_iff, decide_eq_true_eq, hfi, ← hci]
  unfold Bit
  constructor
  · intro h
    exact .inr ⟨by omega, h⟩
  · rintro (h | ⟨_, h⟩)
    · omega
    · exact h
/-- what HasAnomaly returns for valid edges -/
def hasA (L : List T3) (kind : Int) : Bool :=
  if kind = 1 then arou (rowsOf [1] L) else if kind = 2 then arou (rowsOf [1, 2] L) else if kind = 3 then L.any (single3 L) else if kind = 4 then arou (rowsOf [1, 2, 3] L) else false
def hasV (many : Int) (L : List T3) (kind : Int) : Bool := edgesValid many L && hasA L kind
theorem litInts (w : World) (ks : List Int) (T : TypeId) : Ints Any (w.alloc (.cells (ks.map (Value.int .i64)).toArray T)) (some ⟨w.heap.size, 0, none⟩) ks := by
  intro i x hx
  have hB := Blk.new w T (ks.map (Value.int .i64)).toArray
  refine ⟨w.heap.size, 0, _, rfl, trivial, hB.lt, rfl, rfl, fun j u hu => ?_⟩
  have hj : j = 0 := by have := (List.getElem?_eq_some_iff.1 hu).1; simpa using this
  subst hj
  cases hu
  rw [hB.cell]
  simp [hx]

set_option maxHeartbeats 4000000 in
theorem implHasAnomaly_c (many : Int) (L : List T3) (S : Nat → Prop) (A : Option Addr) (c : Nat) (kind : Int) (w : World) (hx : Ops S w A L) (hn : L.length ≤ 1048576) :
    Calls Tryz.prog 55 #[.int .i64 many, .slice A L.length c, .int .i64 kind] w fun e w' => e = .returned (.bool (hasV many L kind)) ∧ Ext w w' := by
  have CV := fun w hx => implEdgesValid_c many L S A c w hx hn
  unfold hasV
  cases hv : edgesValid many L with
  | false =>
    rw [hv] at CV
    have CV := Lib.hid CV
    clear hv
    go_enter Tryz.func55, Tryz.ntmps55
    go_wp2_with (fail)
    go_at_call 84
    refine (CV.out _ (hx.ext (by (repeat' (first | (with_reducible exact Below.refl _ _) | (with_reducible refine Below.mono (by assumption) ?_) | (with_reducible refine Below.trans ?_ (Below.mono (by assumption) ?_)) | (with_reducible refine Below.alloc ?_ ?_ _) | (with_reducible refine Below.drew ?_) | (with_reducible refine below_drewN ?_ _) | (with_reducible refine Below.setCell ?_ ?_ _) | (simp only [World.size_alloc, World.size_setCell, World.size_drew, size_drewN]; omega) | omega))))).mono ?_
    rintro e w1 ⟨rfl, hb⟩
    obtain ⟨hc, hf, hz, hs⟩ := bcell hb
    (try simp only [World.size_alloc, World.size_setCell, World.size_drew, size_drewN] at hs); (first | have l0 := Nat.lt_of_lt_of_le l0 (show _ ≤ w1.heap.size by omega) | have l0 : w.heap.size < w1.heap.size := (by omega) | skip); (try have l0e := Nat.le_of_lt l0); (try have l0f := Nat.le_add_right_of_le (k := 1) l0e); (try have l1 := Nat.lt_of_lt_of_le l1 (show _ ≤ w1.heap.size by omega)); (try have l1e := Nat.le_of_lt l1); (try have l1f := Nat.le_add_right_of_le (k := 1) l1e); (try have l2 := Nat.lt_of_lt_of_le l2 (show _ ≤ w1.heap.size by omega)); (try have l2e := Nat.le_of_lt l2); (try have l2f := Nat.le_add_right_of_le (k := 1) l2e); (try have l3 := Nat.lt_of_lt_of_le l3 (show _ ≤ w1.heap.size by omega)); (try have l3e := Nat.le_of_lt l3); (try have l3f := Nat.le_add_right_of_le (k := 1) l3e)
    go_wp2
    go_ret
    exact ⟨rfl, hb⟩
  | true =>
    rw [hv] at CV
    obtain ⟨m, rfl, hm6, hl, hval⟩ := edgesValid_iff hv
    have hed := edM_ed6 hm6 (show EdM m L from hval)
    have CM := fun ks B d w hx hk hks => matrixOf_c L ks S Any A B c d w hx hk hed hn hks
    have hlow := fun ks => rowsOf_low ks L hed
    have CV := Lib.hid CV
    have CM := Lib.hid CM
    have HED := Lib.hid hed
    have HLOW := Lib.hid hlow
    clear hv hval hed hlow
    rw [Bool.true_and]
    have hr : hasA L kind = hasA L kind := rfl
    by_cases h1 : kind = 1
    · subst h1
      have hre : hasA L 1 = arou (rowsOf [1] L) := rfl
      have HR := Lib.hid hre
      clear hre hr
      go_enter Tryz.func55, Tryz.ntmps55
      go_wp2_with (fail)
      go_at_call 84
      refine (CV.out _ (hx.ext (by (repeat' (first | (with_reducible exact Below.refl _ _) | (with_reducible refine Below.mono (by assumption) ?_) | (with_reducible refine Below.trans ?_ (Below.mono (by assumption) ?_)) | (with_reducible refine Below.alloc ?_ ?_ _) | (with_reducible refine Below.drew ?_) | (with_reducible refine below_drewN ?_ _) | (with_reducible refine Below.setCell ?_ ?_ _) | (simp only [World.size_alloc, World.size_setCell, World.size_drew, size_drewN]; omega) | omega))))).mono ?_
      rintro e w1 ⟨rfl, hb⟩
      obtain ⟨hc, hf, hz, hs⟩ := bcell hb
      (try simp only [World.size_alloc, World.size_setCell, World.size_drew, size_drewN] at hs); (first | have l0 := Nat.lt_of_lt_of_le l0 (show _ ≤ w1.heap.size by omega) | have l0 : w.heap.size < w1.heap.size := (by omega) | skip); (try have l0e := Nat.le_of_lt l0); (try have l0f := Nat.le_add_right_of_le (k := 1) l0e); (try have l1 := Nat.lt_of_lt_of_le l1 (show _ ≤ w1.heap.size by omega)); (try have l1e := Nat.le_of_lt l1); (try have l1f := Nat.le_add_right_of_le (k := 1) l1e); (try have l2 := Nat.lt_of_lt_of_le l2 (show _ ≤ w1.heap.size by omega)); (try have l2e := Nat.le_of_lt l2); (try have l2f := Nat.le_add_right_of_le (k := 1) l2e); (try have l3 := Nat.lt_of_lt_of_le l3 (show _ ≤ w1.heap.size by omega)); (try have l3e := Nat.le_of_lt l3); (try have l3f := Nat.le_add_right_of_le (k := 1) l3e)
      have e1 : Ext w w1 := hb
      clear hc hf hz hs hb
      go_wp2_with (fail)
      refine (CM.out [1] _ _ _ (hx.ext (e1.tr (by (repeat' (first | (with_reducible exact Below.refl _ _) | (with_reducible refine Below.mono (by assumption) ?_) | (with_reducible refine Below.trans ?_ (Below.mono (by assumption) ?_)) | (with_reducible refine Below.alloc ?_ ?_ _) | (with_reducible refine Below.drew ?_) | (with_reducible refine below_drewN ?_ _) | (with_reducible refine Below.setCell ?_ ?_ _) | (simp only [World.size_alloc, World.size_setCell, World.size_drew, size_drewN]; omega) | omega))))) (litInts w1 [1] 3) (by simp)).mono ?_
      rintro e w2 ⟨rfl, hb⟩
      have e2 : Ext w w2 := e1.tr (by (repeat' (first | (with_reducible exact Below.refl _ _) | (with_reducible refine Below.mono (by assumption) ?_) | (with_reducible refine Below.trans ?_ (Below.mono (by assumption) ?_)) | (with_reducible refine Below.alloc ?_ ?_ _) | (with_reducible refine Below.drew ?_) | (with_reducible refine below_drewN ?_ _) | (with_reducible refine Below.setCell ?_ ?_ _) | (simp only [World.size_alloc, World.size_setCell, World.size_drew, size_drewN]; omega) | omega)))
      go_wp2_with (fail)
      refine (around_c _ _ (HLOW.out [1])).mono ?_
      rintro e w3 ⟨rfl, hb3⟩
      go_wp2
      go_ret
      exact ⟨ret_bool HR.out.symm, e2.tr hb3⟩
    by_cases h2 : kind = 2
    · subst h2
      have hre : hasA L 2 = arou (rowsOf [1, 2] L) := rfl
      have HR := Lib.hid hre
      clear hre hr h1
      go_enter Tryz.func55, Tryz.ntmps55
      go_wp2_with (fail)
      go_at_call 84
      refine (CV.out _ (hx.ext (by (repeat' (first | (with_reducible exact Below.refl _ _) | (with_reducible refine Below.mono (by assumption) ?_) | (with_reducible refine Below.trans ?_ (Below.mono (by assumption) ?_)) | (with_reducible refine Below.alloc ?_ ?_ _) | (with_reducible refine Below.drew ?_) | (with_reducible refine below_drewN ?_ _) | (with_reducible refine Below.setCell ?_ ?_ _) | (simp only [World.size_alloc, World.size_setCell, World.size_drew, size_drewN]; omega) | omega))))).mono ?_
      rintro e w1 ⟨rfl, hb⟩
      obtain ⟨hc, hf, hz, hs⟩ := bcell hb
      (try simp only [World.size_alloc, World.size_setCell, World.size_drew, size_drewN] at hs); (first | have l0 := Nat.lt_of_lt_of_le l0 (show _ ≤ w1.heap.size by omega) | have l0 : w.heap.size < w1.heap.size := (by omega) | skip); (try have l0e := Nat.le_of_lt l0); (try have l0f := Nat.le_add_right_of_le (k := 1) l0e); (try have l1 := Nat.lt_of_lt_of_le l1 (show _ ≤ w1.heap.size by omega)); (try have l1e := Nat.le_of_lt l1); (try have l1f := Nat.le_add_right_of_le (k := 1) l1e); (try have l2 := Nat.lt_of_lt_of_le l2 (show _ ≤ w1.heap.size by omega)); (try have l2e := Nat.le_of_lt l2); (try have l2f := Nat.le_add_right_of_le (k := 1) l2e); (try have l3 := Nat.lt_of_lt_of_le l3 (show _ ≤ w1.heap.size by omega)); (try have l3e := Nat.le_of_lt l3); (try have l3f := Nat.le_add_right_of_le (k := 1) l3e)
      have e1 : Ext w w1 := hb
      clear hc hf hz hs hb
      go_wp2_with (fail)
      refine (CM.out [1, 2] _ _ _ (hx.ext (e1.tr (by (repeat' (first | (with_reducible exact Below.refl _ _) | (with_reducible refine Below.mono (by assumption) ?_) | (with_reducible refine Below.trans ?_ (Below.mono (by assumption) ?_)) | (with_reducible refine Below.alloc ?_ ?_ _) | (with_reducible refine Below.drew ?_) | (with_reducible refine below_drewN ?_ _) | (with_reducible refine Below.setCell ?_ ?_ _) | (simp only [World.size_alloc, World.size_setCell, World.size_drew, size_drewN]; omega) | omega))))) (litInts w1 [1, 2] 3) (by simp)).mono ?_
      rintro e w2 ⟨rfl, hb⟩
      have e2 : Ext w w2 := e1.tr (by (repeat' (first | (with_reducible exact Below.refl _ _) | (with_reducible refine Below.mono (by assumption) ?_) | (with_reducible refine Below.trans ?_ (Below.mono (by assumption) ?_)) | (with_reducible refine Below.alloc ?_ ?_ _) | (with_reducible refine Below.drew ?_) | (with_reducible refine below_drewN ?_ _) | (with_reducible refine Below.setCell ?_ ?_ _) | (simp only [World.size_alloc, World.size_setCell, World.size_drew, size_drewN]; omega) | omega)))
      go_wp2_with (fail)
      refine (around_c _ _ (HLOW.out [1, 2])).mono ?_
      rintro e w3 ⟨rfl, hb3⟩
      go_wp2
      go_ret
      exact ⟨ret_bool HR.out.symm, e2.tr hb3⟩
    by_cases h4 : kind = 4
    · subst h4
      have hre : hasA L 4 = arou (rowsOf [1, 2, 3] L) := rfl
      have HR := Lib.hid hre
      clear hre hr h1 h2
      go_enter Tryz.func55, Tryz.ntmps55
      go_wp2_with (fail)
      go_at_call 84
      refine (CV.out _ (hx.ext (by (repeat' (first | (with_reducible exact Below.refl _ _) | (with_reducible refine Below.mono (by assumption) ?_) | (with_reducible refine Below.trans ?_ (Below.mono (by assumption) ?_)) | (with_reducible refine Below.alloc ?_ ?_ _) | (with_reducible refine Below.drew ?_) | (with_reducible refine below_drewN ?_ _) | (with_reducible refine Below.setCell ?_ ?_ _) | (simp only [World.size_alloc, World.size_setCell, World.size_drew, size_drewN]; omega) | omega))))).mono ?_
      rintro e w1 ⟨rfl, hb⟩
      obtain ⟨hc, hf, hz, hs⟩ := bcell hb
      (try simp only [World.size_alloc, World.size_setCell, World.size_drew, size_drewN] at hs); (first | have l0 := Nat.lt_of_lt_of_le l0 (show _ ≤ w1.heap.size by omega) | have l0 : w.heap.size < w1.heap.size := (by omega) | skip); (try have l0e := Nat.le_of_lt l0); (try have l0f := Nat.le_add_right_of_le (k := 1) l0e); (try have l1 := Nat.lt_of_lt_of_le l1 (show _ ≤ w1.heap.size by omega)); (try have l1e := Nat.le_of_lt l1); (try have l1f := Nat.le_add_right_of_le (k := 1) l1e); (try have l2 := Nat.lt_of_lt_of_le l2 (show _ ≤ w1.heap.size by omega)); (try have l2e := Nat.le_of_lt l2); (try have l2f := Nat.le_add_right_of_le (k := 1) l2e); (try have l3 := Nat.lt_of_lt_of_le l3 (show _ ≤ w1.heap.size by omega)); (try have l3e := Nat.le_of_lt l3); (try have l3f := Nat.le_add_right_of_le (k := 1) l3e)
      have e1 : Ext w w1 := hb
      clear hc hf hz hs hb
      go_wp2_with (fail)
      refine (CM.out [1, 2, 3] _ _ _ (hx.ext (e1.tr (by (repeat' (first | (with_reducible exact Below.refl _ _) | (with_reducible refine Below.mono (by assumption) ?_) | (with_reducible refine Below.trans ?_ (Below.mono (by assumption) ?_)) | (with_reducible refine Below.alloc ?_ ?_ _) | (with_reducible refine Below.drew ?_) | (with_reducible refine below_drewN ?_ _) | (with_reducible refine Below.setCell ?_ ?_ _) | (simp only [World.size_alloc, World.size_setCell, World.size_drew, size_drewN]; omega) | omega))))) (litInts w1 [1, 2, 3] 3) (by simp)).mono ?_
      rintro e w2 ⟨rfl, hb⟩
      have e2 : Ext w w2 := e1.tr (by (repeat' (first | (with_reducible exact Below.refl _ _) | (with_reducible refine Below.mono (by assumption) ?_) | (with_reducible refine Below.trans ?_ (Below.mono (by assumption) ?_)) | (with_reducible refine Below.alloc ?_ ?_ _) | (with_reducible refine Below.drew ?_) | (with_reducible refine below_drewN ?_ _) | (with_reducible refine Below.setCell ?_ ?_ _) | (simp only [World.size_alloc, World.size_setCell, World.size_drew, size_drewN]; omega) | omega)))
      go_wp2_with (fail)
      refine (around_c _ _ (HLOW.out [1, 2, 3])).mono ?_
      rintro e w3 ⟨rfl, hb3⟩
      go_wp2
      go_ret
      exact ⟨ret_bool HR.out.symm, e2.tr hb3⟩
    by_cases h3 : kind = 3
    · subst h3
      have hre : hasA L 3 = L.any (single3 L) := rfl
      have HR := Lib.hid hre
      clear hre hr h1 h2 h4
      have CR := fun w => reach_c (rowsOf [1, 2] L) w (HLOW.out [1, 2])
      have hcl := clo_low (HLOW.out [1, 2])
      have hsg : ∀ (a y : Nat) (z : Int), single3 L ⟨a, y, z⟩ = (z == 3 && (clo (rowsOf [1, 2] L) y).testBit a) := fun a y z => rfl
      generalize clo (rowsOf [1, 2] L) = F at CR hcl hsg
      have CR := Lib.hid CR
      have HC := Lib.hid hcl
      have HS := Lib.hid hsg
      clear hcl hsg
      go_enter Tryz.func55, Tryz.ntmps55
      go_wp2_with (fail)
      go_at_call 84
      refine (CV.out _ (hx.ext (by (repeat' (first | (with_reducible exact Below.refl _ _) | (with_reducible refine Below.mono (by assumption) ?_) | (with_reducible refine Below.trans ?_ (Below.mono (by assumption) ?_)) | (with_reducible refine Below.alloc ?_ ?_ _) | (with_reducible refine Below.drew ?_) | (with_reducible refine below_drewN ?_ _) | (with_reducible refine Below.setCell ?_ ?_ _) | (simp only [World.size_alloc, World.size_setCell, World.size_drew, size_drewN]; omega) | omega))))).mono ?_
      rintro e w1 ⟨rfl, hb⟩
      obtain ⟨hc, hf, hz, hs⟩ := bcell hb
      (try simp only [World.size_alloc, World.size_setCell, World.size_drew, size_drewN] at hs); (first | have l0 := Nat.lt_of_lt_of_le l0 (show _ ≤ w1.heap.size by omega) | have l0 : w.heap.size < w1.heap.size := (by omega) | skip); (try have l0e := Nat.le_of_lt l0); (try have l0f := Nat.le_add_right_of_le (k := 1) l0e); (try have l1 := Nat.lt_of_lt_of_le l1 (show _ ≤ w1.heap.size by omega)); (try have l1e := Nat.le_of_lt l1); (try have l1f := Nat.le_add_right_of_le (k := 1) l1e); (try have l2 := Nat.lt_of_lt_of_le l2 (show _ ≤ w1.heap.size by omega)); (try have l2e := Nat.le_of_lt l2); (try have l2f := Nat.le_add_right_of_le (k := 1) l2e); (try have l3 := Nat.lt_of_lt_of_le l3 (show _ ≤ w1.heap.size by omega)); (try have l3e := Nat.le_of_lt l3); (try have l3f := Nat.le_add_right_of_le (k := 1) l3e)
      have e1 : Ext w w1 := hb
      clear hc hf hz hs hb
      go_wp2_with (fail)
      refine (CM.out [1, 2] _ _ _ (hx.ext (e1.tr (by (repeat' (first | (with_reducible exact Below.refl _ _) | (with_reducible refine Below.mono (by assumption) ?_) | (with_reducible refine Below.trans ?_ (Below.mono (by assumption) ?_)) | (with_reducible refine Below.alloc ?_ ?_ _) | (with_reducible refine Below.drew ?_) | (with_reducible refine below_drewN ?_ _) | (with_reducible refine Below.setCell ?_ ?_ _) | (simp only [World.size_alloc, World.size_setCell, World.size_drew, size_drewN]; omega) | omega))))) (litInts w1 [1, 2] 3) (by simp)).mono ?_
      rintro e w2 ⟨rfl, hb⟩
      have e2 : Ext w w2 := e1.tr (by (repeat' (first | (with_reducible exact Below.refl _ _) | (with_reducible refine Below.mono (by assumption) ?_) | (with_reducible refine Below.trans ?_ (Below.mono (by assumption) ?_)) | (with_reducible refine Below.alloc ?_ ?_ _) | (with_reducible refine Below.drew ?_) | (with_reducible refine below_drewN ?_ _) | (with_reducible refine Below.setCell ?_ ?_ _) | (simp only [World.size_alloc, World.size_setCell, World.size_drew, size_drewN]; omega) | omega)))
      clear hb
      go_wp2_with (fail)
      refine (CR.out _).mono ?_
      rintro e w3 ⟨rfl, hb⟩
      have e3 : Ext w w3 := e2.tr hb
      have hB : Blk (w3.alloc (.cells (matA F) 106)) w3.heap.size 106 (matA F) := Blk.new _ _ _
      have HB := Lib.hid hB
      have z3 := e3.size
      clear hb hB
      go_wp2
      go_loopw [35] (fun i wr => ∃ k : Nat, k ≤ L.length ∧ i = .int .i64 k ∧ Ext w wr ∧ Blk wr w3.heap.size 106 (matA F) ∧ AllTo (fun e => !single3 L e) L k) (fun i _ => L.length - (intOf i).toNat)
      case atStart => exact ⟨0, Nat.zero_le _, rfl, by (repeat' (first | (with_reducible exact Below.refl _ _) | (with_reducible refine Below.mono (by assumption) ?_) | (with_reducible refine Below.trans ?_ (Below.mono (by assumption) ?_)) | (with_reducible refine Below.alloc ?_ ?_ _) | (with_reducible refine Below.drew ?_) | (with_reducible refine below_drewN ?_ _) | (with_reducible refine Below.setCell ?_ ?_ _) | (simp only [World.size_alloc, World.size_setCell, World.size_drew, size_drewN]; omega) | omega)), HB.out, AllTo.zero⟩
      case round =>
        obtain ⟨k, hk, rfl, hE, hM, hall⟩ := hrel
        have HA := Lib.hid hall
        have hEz := hE.size
        have hMl := hM.lt
        clear hall HB
        by_cases hlt : k < L.length
        · obtain ⟨x0, x1, x2, b, off, hxk, rfl, _, hb0, c0, c1, c2⟩ := (hx.ext hE).at_ hlt
          have hed := HED.out _ (List.mem_of_getElem? hxk)
          unfold ed6 at hed
          simp only at hed
          obtain ⟨g1, g2, g3, g4⟩ := hed
          have HX := Lib.hid hxk
          clear hxk
          obtain ⟨a, rfl⟩ := Int.eq_ofNat_of_zero_le g1
          obtain ⟨y, rfl⟩ := Int.eq_ofNat_of_zero_le g3
          have hsv := HS.out a y x2
          have m0 := mat_cell hM (i := 0) (by omega)
          have m1 := mat_cell hM (i := 1) (by omega)
          have m2 := mat_cell hM (i := 2) (by omega)
          have m3 := mat_cell hM (i := 3) (by omega)
          have m4 := mat_cell hM (i := 4) (by omega)
          have m5 := mat_cell hM (i := 5) (by omega)
          have hEb : Ext wr (wr.alloc (.cells #[.int .i64 a, .int .i64 y, .int .i64 x2] 76)) := by (repeat' (first | (with_reducible exact Below.refl _ _) | (with_reducible refine Below.mono (by assumption) ?_) | (with_reducible refine Below.trans ?_ (Below.mono (by assumption) ?_)) | (with_reducible refine Below.alloc ?_ ?_ _) | (with_reducible refine Below.drew ?_) | (with_reducible refine below_drewN ?_ _) | (with_reducible refine Below.setCell ?_ ?_ _) | (simp only [World.size_alloc, World.size_setCell, World.size_drew, size_drewN]; omega) | omega))
          have HM := Lib.hid hM
          clear hM
          by_cases hx3 : x2 = 3
          · subst hx3
            have C2 := fun w => has_c F y a w (by omega) (by omega) HC.out
            have h33 : ((3 : Int) == 3) = true := rfl
            rw [h33, Bool.true_and] at hsv
            rw [← hsv] at C2
            clear h33
            cases hsb : single3 L ⟨a, y, 3⟩ with
            | true =>
              rw [hsb] at C2
              have hres : L.any (single3 L) = true := any_true HX.out hsb
              have C2 := Lib.hid C2
              have HRR := Lib.hid (HR.out.trans hres)
              clear hsv hsb hres
              go_wp2_with (fail)
              refine (C2.out _).mono ?_
              rintro e w4 ⟨rfl, hb4⟩
              go_wp2
              go_ret
              exact ⟨ret_bool HRR.out.symm, hE.tr (hEb.tr hb4)⟩
            | false =>
              rw [hsb] at C2
              have hst := HA.out.step (p := fun e => !single3 L e) HX.out (by rw [hsb]; rfl)
              have C2 := Lib.hid C2
              have HST := Lib.hid hst
              clear hsv hsb hst
              go_wp2_with (fail)
              refine (C2.out _).mono ?_
              rintro e w4 ⟨rfl, hb4⟩
              go_wp2
              exact ⟨⟨k + 1, by omega, by go_num, hE.tr (hEb.tr hb4), HM.out.ext (hEb.tr hb4), HST.out⟩, by simp [intOf]; omega⟩
          · have hx30 : (x2 == 3) = false := by simpa using hx3
            rw [hx30, Bool.false_and] at hsv
            have hst := HA.out.step (p := fun e => !single3 L e) HX.out (by rw [hsv]; rfl)
            have HST := Lib.hid hst
            clear hsv hst hx3
            go_wp2
            exact ⟨⟨k + 1, by omega, by go_num, hE.tr hEb, HM.out.ext hEb, HST.out⟩, by simp [intOf]; omega⟩
        · obtain rfl : k = L.length := by omega
          have hres : L.any (single3 L) = false := HA.out.any_not
          have HRR := Lib.hid (HR.out.trans hres)
          clear hres hM
          go_wp2
          go_ret
          exact ⟨ret_bool HRR.out.symm, hE⟩
    · have hre : hasA L kind = false := by unfold hasA; rw [if_neg h1, if_neg h2, if_neg h3, if_neg h4]
      have HR := Lib.hid hre
      clear hre hr
      have k1 : (kind == 1) = false := by simpa using h1
      have k2 : (kind == 2) = false := by simpa using h2
      have k3 : (kind == 3) = false := by simpa using h3
      have k4 : (kind == 4) = false := by simpa using h4
      clear h1 h2 h3 h4
      go_enter Tryz.func55, Tryz.ntmps55
      go_wp2_with (fail)
      go_at_call 84
      refine (CV.out _ (hx.ext (by (repeat' (first | (with_reducible exact Below.refl _ _) | (with_reducible refine Below.mono (by assumption) ?_) | (with_reducible refine Below.trans ?_ (Below.mono (by assumption) ?_)) | (with_reducible refine Below.alloc ?_ ?_ _) | (with_reducible refine Below.drew ?_) | (with_reducible refine below_drewN ?_ _) | (with_reducible refine Below.setCell ?_ ?_ _) | (simp only [World.size_alloc, World.size_setCell, World.size_drew, size_drewN]; omega) | omega))))).mono ?_
      rintro e w1 ⟨rfl, hb⟩
      obtain ⟨hc, hf, hz, hs⟩ := bcell hb
      (try simp only [World.size_alloc, World.size_setCell, World.size_drew, size_drewN] at hs); (first | have l0 := Nat.lt_of_lt_of_le l0 (show _ ≤ w1.heap.size by omega) | have l0 : w.heap.size < w1.heap.size := (by omega) | skip); (try have l0e := Nat.le_of_lt l0); (try have l0f := Nat.le_add_right_of_le (k := 1) l0e); (try have l1 := Nat.lt_of_lt_of_le l1 (show _ ≤ w1.heap.size by omega)); (try have l1e := Nat.le_of_lt l1); (try have l1f := Nat.le_add_right_of_le (k := 1) l1e); (try have l2 := Nat.lt_of_lt_of_le l2 (show _ ≤ w1.heap.size by omega)); (try have l2e := Nat.le_of_lt l2); (try have l2f := Nat.le_add_right_of_le (k := 1) l2e); (try have l3 := Nat.lt_of_lt_of_le l3 (show _ ≤ w1.heap.size by omega)); (try have l3e := Nat.le_of_lt l3); (try have l3f := Nat.le_add_right_of_le (k := 1) l3e)
      go_wp2
      go_ret
      exact ⟨ret_bool HR.out.symm, hb⟩

/-- a cycle of the edges up to a kind -/
def cycU (m : Nat) (L : List T3) (q : Int) : List Int := cycR m (upto q L)
set_option maxHeartbeats 4000000 in
theorem specHasAnomaly_c (many : Int) (L : List T3) (S : Nat → Prop) (A : Option Addr) (c : Nat) (kind : Int) (w : World) (hx : Ops S w A L) (hn : L.length ≤ 1048576) :
    Calls Tryz.prog 40 #[.int .i64 many, .slice A L.length c, .int .i64 kind] w fun e w' => e = .returned (.bool (hasV many L kind)) ∧ Ext w w' := by
  have CV := fun w hx => specEdgesValid_c many L S A c w hx hn
  unfold hasV
  cases hv : edgesValid many L with
  | false =>
    rw [hv] at CV
    have CV := Lib.hid CV
    clear hv
    go_enter Tryz.func40, Tryz.ntmps40
    go_wp2_with (fail)
    go_at_call 64
    refine (CV.out _ (hx.ext (by (repeat' (first | (with_reducible exact Below.refl _ _) | (with_reducible refine Below.mono (by assumption) ?_) | (with_reducible refine Below.trans ?_ (Below.mono (by assumption) ?_)) | (with_reducible refine Below.alloc ?_ ?_ _) | (with_reducible refine Below.drew ?_) | (with_reducible refine below_drewN ?_ _) | (with_reducible refine Below.setCell ?_ ?_ _) | (simp only [World.size_alloc, World.size_setCell, World.size_drew, size_drewN]; omega) | omega))))).mono ?_
    rintro e w1 ⟨rfl, hb⟩
    obtain ⟨hc, hf, hz, hs⟩ := bcell hb
    (try simp only [World.size_alloc, World.size_setCell, World.size_drew, size_drewN] at hs); (first | have l0 := Nat.lt_of_lt_of_le l0 (show _ ≤ w1.heap.size by omega) | have l0 : w.heap.size < w1.heap.size := (by omega) | skip); (try have l0e := Nat.le_of_lt l0); (try have l0f := Nat.le_add_right_of_le (k := 1) l0e); (try have l1 := Nat.lt_of_lt_of_le l1 (show _ ≤ w1.heap.size by omega)); (try have l1e := Nat.le_of_lt l1); (try have l1f := Nat.le_add_right_of_le (k := 1) l1e); (try have l2 := Nat.lt_of_lt_of_le l2 (show _ ≤ w1.heap.size by omega)); (try have l2e := Nat.le_of_lt l2); (try have l2f := Nat.le_add_right_of_le (k := 1) l2e); (try have l3 := Nat.lt_of_lt_of_le l3 (show _ ≤ w1.heap.size by omega)); (try have l3e := Nat.le_of_lt l3); (try have l3f := Nat.le_add_right_of_le (k := 1) l3e)
    go_wp2
    go_ret
    exact ⟨rfl, hb⟩
  | true =>
    rw [hv] at CV
    have CC := fun q S A c w hx => specCycleOf_c many (upto q L) S A c w hx (by have := upto_len q L; omega)
    have huv := fun q => upto_valid hv q
    obtain ⟨m, rfl, hm6, hl, hval⟩ := edgesValid_iff hv
    have hcv : ∀ q, cycV m (upto q L) = cycU m L q := fun q => by unfold cycV cycU; rw [if_pos (huv q)]; rfl
    simp only [hcv] at CC
    have CV := Lib.hid CV
    have CC := Lib.hid CC
    have HV := Lib.hid (show EdM m L from hval)
    clear hv hval huv hcv
    rw [Bool.true_and]
    by_cases h1 : kind = 1
    · subst h1
      have hre : hasA L 1 = decide (0 < (cycU m L 1).length) := (cyc_eq hm6 HV.out kinds1).symm
      have HR := Lib.hid hre
      clear hre
      go_enter Tryz.func40, Tryz.ntmps40
      go_wp2_with (fail)
      go_at_call 64
      refine (CV.out _ (hx.ext (by (repeat' (first | (with_reducible exact Below.refl _ _) | (with_reducible refine Below.mono (by assumption) ?_) | (with_reducible refine Below.trans ?_ (Below.mono (by assumption) ?_)) | (with_reducible refine Below.alloc ?_ ?_ _) | (with_reducible refine Below.drew ?_) | (with_reducible refine below_drewN ?_ _) | (with_reducible refine Below.setCell ?_ ?_ _) | (simp only [World.size_alloc, World.size_setCell, World.size_drew, size_drewN]; omega) | omega))))).mono ?_
      rintro e w1 ⟨rfl, hb⟩
      obtain ⟨hc, hf, hz, hs⟩ := bcell hb
      (try simp only [World.size_alloc, World.size_setCell, World.size_drew, size_drewN] at hs); (first | have l0 := Nat.lt_of_lt_of_le l0 (show _ ≤ w1.heap.size by omega) | have l0 : w.heap.size < w1.heap.size := (by omega) | skip); (try have l0e := Nat.le_of_lt l0); (try have l0f := Nat.le_add_right_of_le (k := 1) l0e); (try have l1 := Nat.lt_of_lt_of_le l1 (show _ ≤ w1.heap.size by omega)); (try have l1e := Nat.le_of_lt l1); (try have l1f := Nat.le_add_right_of_le (k := 1) l1e); (try have l2 := Nat.lt_of_lt_of_le l2 (show _ ≤ w1.heap.size by omega)); (try have l2e := Nat.le_of_lt l2); (try have l2f := Nat.le_add_right_of_le (k := 1) l2e); (try have l3 := Nat.lt_of_lt_of_le l3 (show _ ≤ w1.heap.size by omega)); (try have l3e := Nat.le_of_lt l3); (try have l3f := Nat.le_add_right_of_le (k := 1) l3e)
      have e1 : Ext w w1 := hb
      clear hc hf hz hs hb
      go_wp2_with (fail)
      refine (l10Upto_c 1 L _ _ _ _ (hx.ext e1) hn).mono ?_
      rintro e w2 ⟨A2, c2, rfl, hU, _, hb2⟩
      have e2 : Ext w w2 := e1.tr hb2
      go_wp2_with (fail)
      refine (CC.out 1 _ _ _ _ hU).mono ?_
      rintro e w3 ⟨A3, c3, rfl, _, _, hb3⟩
      have e3 : Ext w w3 := e2.tr hb3
      clear hU hb2 hb3
      go_wp2
      go_ret
      exact ⟨ret_bool (by rw [HR.out]), e3⟩
    by_cases h2 : kind = 2
    · subst h2
      have hre : hasA L 2 = decide (0 < (cycU m L 2).length) := (cyc_eq hm6 HV.out kinds2).symm
      have HR := Lib.hid hre
      clear hre h1
      go_enter Tryz.func40, Tryz.ntmps40
      go_wp2_with (fail)
      go_at_call 64
      refine (CV.out _ (hx.ext (by (repeat' (first | (with_reducible exact Below.refl _ _) | (with_reducible refine Below.mono (by assumption) ?_) | (with_reducible refine Below.trans ?_ (Below.mono (by assumption) ?_)) | (with_reducible refine Below.alloc ?_ ?_ _) | (with_reducible refine Below.drew ?_) | (with_reducible refine below_drewN ?_ _) | (with_reducible refine Below.setCell ?_ ?_ _) | (simp only [World.size_alloc, World.size_setCell, World.size_drew, size_drewN]; omega) | omega))))).mono ?_
      rintro e w1 ⟨rfl, hb⟩
      obtain ⟨hc, hf, hz, hs⟩ := bcell hb
      (try simp only [World.size_alloc, World.size_setCell, World.size_drew, size_drewN] at hs); (first | have l0 := Nat.lt_of_lt_of_le l0 (show _ ≤ w1.heap.size by omega) | have l0 : w.heap.size < w1.heap.size := (by omega) | skip); (try have l0e := Nat.le_of_lt l0); (try have l0f := Nat.le_add_right_of_le (k := 1) l0e); (try have l1 := Nat.lt_of_lt_of_le l1 (show _ ≤ w1.heap.size by omega)); (try have l1e := Nat.le_of_lt l1); (try have l1f := Nat.le_add_right_of_le (k := 1) l1e); (try have l2 := Nat.lt_of_lt_of_le l2 (show _ ≤ w1.heap.size by omega)); (try have l2e := Nat.le_of_lt l2); (try have l2f := Nat.le_add_right_of_le (k := 1) l2e); (try have l3 := Nat.lt_of_lt_of_le l3 (show _ ≤ w1.heap.size by omega)); (try have l3e := Nat.le_of_lt l3); (try have l3f := Nat.le_add_right_of_le (k := 1) l3e)
      have e1 : Ext w w1 := hb
      clear hc hf hz hs hb
      go_wp2_with (fail)
      refine (l10Upto_c 2 L _ _ _ _ (hx.ext e1) hn).mono ?_
      rintro e w2 ⟨A2, c2, rfl, hU, _, hb2⟩
      have e2 : Ext w w2 := e1.tr hb2
      go_wp2_with (fail)
      refine (CC.out 2 _ _ _ _ hU).mono ?_
      rintro e w3 ⟨A3, c3, rfl, _, _, hb3⟩
      have e3 : Ext w w3 := e2.tr hb3
      clear hU hb2 hb3
      go_wp2
      go_ret
      exact ⟨ret_bool (by rw [HR.out]), e3⟩
    by_cases h4 : kind = 4
    · subst h4
      have hre : hasA L 4 = decide (0 < (cycU m L 3).length) := (cyc_eq hm6 HV.out kinds3).symm
      have HR := Lib.hid hre
      clear hre h1 h2
      go_enter Tryz.func40, Tryz.ntmps40
      go_wp2_with (fail)
      go_at_call 64
      refine (CV.out _ (hx.ext (by (repeat' (first | (with_reducible exact Below.refl _ _) | (with_reducible refine Below.mono (by assumption) ?_) | (with_reducible refine Below.trans ?_ (Below.mono (by assumption) ?_)) | (with_reducible refine Below.alloc ?_ ?_ _) | (with_reducible refine Below.drew ?_) | (with_reducible refine below_drewN ?_ _) | (with_reducible refine Below.setCell ?_ ?_ _) | (simp only [World.size_alloc, World.size_setCell, World.size_drew, size_drewN]; omega) | omega))))).mono ?_
      rintro e w1 ⟨rfl, hb⟩
      obtain ⟨hc, hf, hz, hs⟩ := bcell hb
      (try simp only [World.size_alloc, World.size_setCell, World.size_drew, size_drewN] at hs); (first | have l0 := Nat.lt_of_lt_of_le l0 (show _ ≤ w1.heap.size by omega) | have l0 : w.heap.size < w1.heap.size := (by omega) | skip); (try have l0e := Nat.le_of_lt l0); (try have l0f := Nat.le_add_right_of_le (k := 1) l0e); (try have l1 := Nat.lt_of_lt_of_le l1 (show _ ≤ w1.heap.size by omega)); (try have l1e := Nat.le_of_lt l1); (try have l1f := Nat.le_add_right_of_le (k := 1) l1e); (try have l2 := Nat.lt_of_lt_of_le l2 (show _ ≤ w1.heap.size by omega)); (try have l2e := Nat.le_of_lt l2); (try have l2f := Nat.le_add_right_of_le (k := 1) l2e); (try have l3 := Nat.lt_of_lt_of_le l3 (show _ ≤ w1.heap.size by omega)); (try have l3e := Nat.le_of_lt l3); (try have l3f := Nat.le_add_right_of_le (k := 1) l3e)
      have e1 : Ext w w1 := hb
      clear hc hf hz hs hb
      go_wp2_with (fail)
      refine (l10Upto_c 3 L _ _ _ _ (hx.ext e1) hn).mono ?_
      rintro e w2 ⟨A2, c2, rfl, hU, _, hb2⟩
      have e2 : Ext w w2 := e1.tr hb2
      go_wp2_with (fail)
      refine (CC.out 3 _ _ _ _ hU).mono ?_
      rintro e w3 ⟨A3, c3, rfl, _, _, hb3⟩
      have e3 : Ext w w3 := e2.tr hb3
      clear hU hb2 hb3
      go_wp2
      go_ret
      exact ⟨ret_bool (by rw [HR.out]), e3⟩
    by_cases h3 : kind = 3
    · subst h3
      have hre : hasA L 3 = L.any (single3 L) := rfl
      have HR := Lib.hid hre
      have hsg := fun e he => single3_far hm6 HV.out (e := e) he
      have HSG := Lib.hid hsg
      have hul := upto_len 2 L
      have HUV := Lib.hid (upto_edM HV.out 2)
      clear hre h1 h2 h4 hsg
      go_enter Tryz.func40, Tryz.ntmps40
      go_wp2_with (fail)
      go_at_call 64
      refine (CV.out _ (hx.ext (by (repeat' (first | (with_reducible exact Below.refl _ _) | (with_reducible refine Below.mono (by assumption) ?_) | (with_reducible refine Below.trans ?_ (Below.mono (by assumption) ?_)) | (with_reducible refine Below.alloc ?_ ?_ _) | (with_reducible refine Below.drew ?_) | (with_reducible refine below_drewN ?_ _) | (with_reducible refine Below.setCell ?_ ?_ _) | (simp only [World.size_alloc, World.size_setCell, World.size_drew, size_drewN]; omega) | omega))))).mono ?_
      rintro e w1 ⟨rfl, hb⟩
      obtain ⟨hc, hf, hz, hs⟩ := bcell hb
      (try simp only [World.size_alloc, World.size_setCell, World.size_drew, size_drewN] at hs); (first | have l0 := Nat.lt_of_lt_of_le l0 (show _ ≤ w1.heap.size by omega) | have l0 : w.heap.size < w1.heap.size := (by omega) | skip); (try have l0e := Nat.le_of_lt l0); (try have l0f := Nat.le_add_right_of_le (k := 1) l0e); (try have l1 := Nat.lt_of_lt_of_le l1 (show _ ≤ w1.heap.size by omega)); (try have l1e := Nat.le_of_lt l1); (try have l1f := Nat.le_add_right_of_le (k := 1) l1e); (try have l2 := Nat.lt_of_lt_of_le l2 (show _ ≤ w1.heap.size by omega)); (try have l2e := Nat.le_of_lt l2); (try have l2f := Nat.le_add_right_of_le (k := 1) l2e); (try have l3 := Nat.lt_of_lt_of_le l3 (show _ ≤ w1.heap.size by omega)); (try have l3e := Nat.le_of_lt l3); (try have l3f := Nat.le_add_right_of_le (k := 1) l3e)
      have e1 : Ext w w1 := hb
      clear hc hf hz hs hb
      go_wp2_with (fail)
      refine (l10Upto_c 2 L _ _ _ _ (hx.ext e1) hn).mono ?_
      rintro e w2 ⟨A2, c2, rfl, hU, _, hb2⟩
      have e2 : Ext w w2 := e1.tr hb2
      have CF := fun t ht w hx => l9Far_c m t (upto 2 L) (fun b => w1.heap.size ≤ b) A2 c2 w hx (by omega) hm6 ht HUV.out
      have CF := Lib.hid CF
      have HU := Lib.hid hU
      generalize upto 2 L = U at CF HU HSG hul
      clear hU hb2
      go_wp2
      go_loopw [8] (fun i wr => ∃ k : Nat, k ≤ L.length ∧ i = .int .i64 k ∧ Ext w2 wr ∧ AllTo (fun e => !single3 L e) L k) (fun i _ => L.length - (intOf i).toNat)
      case atStart => exact ⟨0, Nat.zero_le _, rfl, Below.refl _ _, AllTo.zero⟩
      case round =>
        obtain ⟨k, hk, rfl, hE, hall⟩ := hrel
        have HA := Lib.hid hall
        have hE0 := e2.tr hE
        clear hall
        by_cases hlt : k < L.length
        · obtain ⟨x0, x1, x2, b, off, hxk, rfl, _, hb0, c0, c1, c2'⟩ := (hx.ext hE0).at_ hlt
          have hmem := List.mem_of_getElem? hxk
          obtain ⟨v1, v2, v3, v4, _⟩ := HV.out _ hmem
          have hsv := HSG.out _ hmem
          simp only at v1 v2 v3 v4 hsv
          have HX := Lib.hid hxk
          clear hxk hmem
          obtain ⟨a, rfl⟩ := Int.eq_ofNat_of_zero_le v1
          obtain ⟨y, rfl⟩ := Int.eq_ofNat_of_zero_le v3
          simp only [Int.toNat_natCast] at hsv
          have hai : (a : Int) < m := by omega
          have hyi : (y : Int) < m := by omega
          have hki : (k : Int) < L.length := by omega
          by_cases hx3 : x2 = 3
          · subst hx3
            have h33 : ((3 : Int) == 3) = true := rfl
            rw [h33, Bool.true_and] at hsv
            have CF2 := CF.out a (by omega)
            have fy : ∀ W B, Ints (fun b => wr.heap.size ≤ b) W B (fl m (farT U a m)) → ∃ bb off, B = some ⟨bb, off, none⟩ ∧ W.cell? ⟨bb, off + y, none⟩ = some (.int .i64 (farT U a m y)) := fun W B h => by
              obtain ⟨bb, off, rfl, _⟩ := h.off_ (by rw [fl_len]; omega)
              exact ⟨bb, off, rfl, h.cell (fl_get (by omega))⟩
            have hfl := fl_len m (farT U a m)
            generalize fl m (farT U a m) = FL at fy CF2 hfl
            obtain ⟨fv, hfv⟩ : ∃ fv : Int, fv = farT U a m y := ⟨_, rfl⟩
            have hsv2 : single3 L ⟨a, y, 3⟩ = true ↔ 0 ≤ fv := by rw [hsv, hfv]; exact decide_eq_true_iff
            simp only [← hfv] at fy
            clear hfv
            have CF2 := Lib.hid CF2
            have HFY := Lib.hid fy
            have hym : y < m := by omega
            have hFLi : (y : Int) < FL.length := by rw [hfl]; exact hyi
            have HFL := Lib.hid hfl
            have HSV := Lib.hid hsv2
            clear fy hsv hsv2 hfl
            go_wp2
            refine wp_region_held_drew (S := fun W => W.cell? ⟨b, off + k * 3, none⟩ = some (.int .i64 a) ∧ W.cell? ⟨b, off + k * 3 + 1, none⟩ = some (.int .i64 y) ∧ W.cell? ⟨b, off + k * 3 + 2, none⟩ = some (.int .i64 3)) (by kernel_rfl) ⟨c0, c1, c2'⟩ (fun hHeld => ?_)
            refine wpAnyH_take (i := 0) (oi := ?_) (v := ?_) ?_ ?_ ?_ ?_ ?_ ?_ hHeld ?_
            rotate_left 2
            · (simp only [List.getElem?_toArray, List.getElem?_cons_succ, List.getElem?_cons_zero]; rfl)
            · kernel_rfl
            · kernel_rfl
            · kernel_rfl
            · exact fun _ _ _ h => h
            · refine Or.inl ⟨by rfl, ?_⟩
              (intro w hSw; (try dsimp only at hSw); (try obtain ⟨qS0, qS1⟩ := hSw); go_simp; try (with_reducible rfl))
            try simp only [Act.put, List.setIfInBounds_toArray, List.set_cons_zero, List.set_cons_succ]
            refine wpAnyH_take (i := 1) (oi := ?_) (v := ?_) ?_ ?_ ?_ ?_ ?_ ?_ hHeld ?_
            rotate_left 2
            · (simp only [List.getElem?_toArray, List.getElem?_cons_succ, List.getElem?_cons_zero]; rfl)
            · kernel_rfl
            · kernel_rfl
            · kernel_rfl
            · exact fun _ _ _ h => h
            · refine Or.inl ⟨by rfl, ?_⟩
              (intro w hSw; (try dsimp only at hSw); (try obtain ⟨qS0, qS1⟩ := hSw); go_simp; try (with_reducible rfl))
            try simp only [Act.put, List.setIfInBounds_toArray, List.set_cons_zero, List.set_cons_succ]
            refine wpAnyH_take (i := 2) (oi := ?_) (v := ?_) ?_ ?_ ?_ ?_ ?_ ?_ hHeld ?_
            rotate_left 2
            · (simp only [List.getElem?_toArray, List.getElem?_cons_succ, List.getElem?_cons_zero]; rfl)
            · kernel_rfl
            · kernel_rfl
            · kernel_rfl
            · exact fun _ _ _ h => h
            · refine Or.inl ⟨by rfl, ?_⟩
              (intro w hSw; (try dsimp only at hSw); (try obtain ⟨qS0, qS1⟩ := hSw); go_simp; try (with_reducible rfl))
            try simp only [Act.put, List.setIfInBounds_toArray, List.set_cons_zero, List.set_cons_succ]
            refine wpAnyH_take (i := 3) (oi := ?_) (v := ?_) ?_ ?_ ?_ ?_ ?_ ?_ hHeld ?_
            rotate_left 2
            · (simp only [List.getElem?_toArray, List.getElem?_cons_succ, List.getElem?_cons_zero]; rfl)
            · kernel_rfl
            · kernel_rfl
            · kernel_rfl
            · exact fun _ _ _ h => h
            · refine Or.inl ⟨by rfl, ?_⟩
              (intro w hSw; (try dsimp only at hSw); (try obtain ⟨qS0, qS1⟩ := hSw); go_simp; try (with_reducible rfl))
            try simp only [Act.put, List.setIfInBounds_toArray, List.set_cons_zero, List.set_cons_succ]
            refine wpAnyH_take (i := 4) (oi := ?_) (v := ?_) ?_ ?_ ?_ ?_ ?_ ?_ hHeld ?_
            rotate_left 2
            · (simp only [List.getElem?_toArray, List.getElem?_cons_succ, List.getElem?_cons_zero]; rfl)
            · kernel_rfl
            · kernel_rfl
            · kernel_rfl
            · exact fun _ _ _ h => h
            · refine Or.inl ⟨by rfl, ?_⟩
              (intro w hSw; (try dsimp only at hSw); (try obtain ⟨qS0, qS1⟩ := hSw); go_simp; try (with_reducible rfl))
            try simp only [Act.put, List.setIfInBounds_toArray, List.set_cons_zero, List.set_cons_succ]
            refine wpAnyH_take (i := 5) (oi := ?_) (v := ?_) ?_ ?_ ?_ ?_ ?_ ?_ hHeld ?_
            rotate_left 2
            · (simp only [List.getElem?_toArray, List.getElem?_cons_succ, List.getElem?_cons_zero]; rfl)
            · kernel_rfl
            · kernel_rfl
            · kernel_rfl
            · exact fun _ _ _ h => h
            · refine Or.inl ⟨by rfl, ?_⟩
              (intro w hSw; (try dsimp only at hSw); (try obtain ⟨qS0, qS1⟩ := hSw); go_simp; try (with_reducible rfl))
            try simp only [Act.put, List.setIfInBounds_toArray, List.set_cons_zero, List.set_cons_succ]
            refine wpAnyH_take (i := 6) (oi := ?_) (v := ?_) ?_ ?_ ?_ ?_ ?_ ?_ hHeld ?_
            rotate_left 2
            · (simp only [List.getElem?_toArray, List.getElem?_cons_succ, List.getElem?_cons_zero]; rfl)
            · kernel_rfl
            · kernel_rfl
            · kernel_rfl
            · exact fun _ _ _ h => h
            · refine Or.inl ⟨by rfl, ?_⟩
              (intro w hSw; (try dsimp only at hSw); (try obtain ⟨qS0, qS1⟩ := hSw); go_simp; try (with_reducible rfl))
            try simp only [Act.put, List.setIfInBounds_toArray, List.set_cons_zero, List.set_cons_succ]
            refine wpAnyH_take (i := 7) (oi := ?_) (v := ?_) ?_ ?_ ?_ ?_ ?_ ?_ hHeld ?_
            rotate_left 2
            · (simp only [List.getElem?_toArray, List.getElem?_cons_succ, List.getElem?_cons_zero]; rfl)
            · kernel_rfl
            · kernel_rfl
            · kernel_rfl
            · exact fun _ _ _ h => h
            · refine Or.inl ⟨by rfl, ?_⟩
              (intro w hSw; (try dsimp only at hSw); (try obtain ⟨qS0, qS1⟩ := hSw); go_simp; try (with_reducible rfl))
            try simp only [Act.put, List.setIfInBounds_toArray, List.set_cons_zero, List.set_cons_succ]
            refine wpAnyH_take (i := 8) (oi := ?_) (v := ?_) ?_ ?_ ?_ ?_ ?_ ?_ hHeld ?_
            rotate_left 2
            · (simp only [List.getElem?_toArray, List.getElem?_cons_succ, List.getElem?_cons_zero]; rfl)
            · kernel_rfl
            · kernel_rfl
            · kernel_rfl
            · exact fun _ _ _ h => h
            · refine Or.inl ⟨by rfl, ?_⟩
              (intro w hSw; (try dsimp only at hSw); (try obtain ⟨qS0, qS1⟩ := hSw); go_simp; try (with_reducible rfl))
            try simp only [Act.put, List.setIfInBounds_toArray, List.set_cons_zero, List.set_cons_succ]
            refine wpAnyH_take (i := 9) (oi := ?_) (v := ?_) ?_ ?_ ?_ ?_ ?_ ?_ hHeld ?_
            rotate_left 2
            · (simp only [List.getElem?_toArray, List.getElem?_cons_succ, List.getElem?_cons_zero]; rfl)
            · kernel_rfl
            · kernel_rfl
            · kernel_rfl
            · exact fun _ _ _ h => h
            · refine Or.inl ⟨by rfl, ?_⟩
              (intro w hSw; (try dsimp only at hSw); (try obtain ⟨qS0, qS1⟩ := hSw); go_simp; try (with_reducible rfl))
            try simp only [Act.put, List.setIfInBounds_toArray, List.set_cons_zero, List.set_cons_succ]
            refine wpAnyH_take (i := 10) (oi := ?_) (v := ?_) ?_ ?_ ?_ ?_ ?_ ?_ hHeld ?_
            rotate_left 2
            · (simp only [List.getElem?_toArray, List.getElem?_cons_succ, List.getElem?_cons_zero]; rfl)
            · kernel_rfl
            · kernel_rfl
            · kernel_rfl
            · exact fun _ _ _ h => h
            · refine Or.inl ⟨by rfl, ?_⟩
              (intro w hSw; (try dsimp only at hSw); (try obtain ⟨qS0, qS1⟩ := hSw); go_simp; try (with_reducible rfl))
            try simp only [Act.put, List.setIfInBounds_toArray, List.set_cons_zero, List.set_cons_succ]
            refine wpAnyH_take (i := 11) (oi := ?_) (v := ?_) ?_ ?_ ?_ ?_ ?_ ?_ hHeld ?_
            rotate_left 2
            · (simp only [List.getElem?_toArray, List.getElem?_cons_succ, List.getElem?_cons_zero]; rfl)
            · kernel_rfl
            · kernel_rfl
            · kernel_rfl
            · exact fun _ _ _ h => h
            · refine Or.inl ⟨by rfl, ?_⟩
              (intro w hSw; (try dsimp only at hSw); (try obtain ⟨qS0, qS1⟩ := hSw); go_simp; try (with_reducible rfl))
            try simp only [Act.put, List.setIfInBounds_toArray, List.set_cons_zero, List.set_cons_succ]
            refine wpAnyH_take (i := 12) (oi := ?_) (v := ?_) ?_ ?_ ?_ ?_ ?_ ?_ hHeld ?_
            rotate_left 2
            · (simp only [List.getElem?_toArray, List.getElem?_cons_succ, List.getElem?_cons_zero]; rfl)
            · kernel_rfl
            · kernel_rfl
            · kernel_rfl
            · exact fun _ _ _ h => h
            · refine Or.inl ⟨by rfl, ?_⟩
              (intro w hSw; (try dsimp only at hSw); (try obtain ⟨qS0, qS1⟩ := hSw); go_simp; try (with_reducible rfl))
            try simp only [Act.put, List.setIfInBounds_toArray, List.set_cons_zero, List.set_cons_succ]
            refine wpAnyH_take (i := 13) (oi := ?_) (v := ?_) ?_ ?_ ?_ ?_ ?_ ?_ hHeld ?_
            rotate_left 2
            · (simp only [List.getElem?_toArray, List.getElem?_cons_succ, List.getElem?_cons_zero]; rfl)
            · kernel_rfl
            · kernel_rfl
            · kernel_rfl
            · exact fun _ _ _ h => h
            · refine Or.inl ⟨by rfl, ?_⟩
              (intro w hSw; (try dsimp only at hSw); (try obtain ⟨qS0, qS1⟩ := hSw); go_simp; try (with_reducible rfl))
            try simp only [Act.put, List.setIfInBounds_toArray, List.set_cons_zero, List.set_cons_succ]
            refine wpAnyH_take (i := 15) (oi := ?_) (v := ?_) ?_ ?_ ?_ ?_ ?_ ?_ hHeld ?_
            rotate_left 2
            · (simp only [List.getElem?_toArray, List.getElem?_cons_succ, List.getElem?_cons_zero]; rfl)
            · kernel_rfl
            · kernel_rfl
            · kernel_rfl
            · exact fun _ _ _ h => h
            · refine Or.inl ⟨by rfl, ?_⟩
              (intro w hSw; (try dsimp only at hSw); (try obtain ⟨qS0, qS1⟩ := hSw); go_simp; try (with_reducible rfl))
            try simp only [Act.put, List.setIfInBounds_toArray, List.set_cons_zero, List.set_cons_succ]
            refine wpAnyH_take (i := 16) (oi := ?_) (v := ?_) ?_ ?_ ?_ ?_ ?_ ?_ hHeld ?_
            rotate_left 2
            · (simp only [List.getElem?_toArray, List.getElem?_cons_succ, List.getElem?_cons_zero]; rfl)
            · kernel_rfl
            · kernel_rfl
            · kernel_rfl
            · exact fun _ _ _ h => h
            · refine Or.inl ⟨by rfl, ?_⟩
              (intro w hSw; (try dsimp only at hSw); (try obtain ⟨qS0, qS1⟩ := hSw); go_simp; try (with_reducible rfl))
            try simp only [Act.put, List.setIfInBounds_toArray, List.set_cons_zero, List.set_cons_succ]
            refine wpAnyH_take (i := 17) (oi := ?_) (v := ?_) ?_ ?_ ?_ ?_ ?_ ?_ hHeld ?_
            rotate_left 2
            · (simp only [List.getElem?_toArray, List.getElem?_cons_succ, List.getElem?_cons_zero]; rfl)
            · kernel_rfl
            · kernel_rfl
            · kernel_rfl
            · exact fun _ _ _ h => h
            · refine Or.inl ⟨by rfl, ?_⟩
              (intro w hSw; (try dsimp only at hSw); (try obtain ⟨qS0, qS1⟩ := hSw); go_simp; try (with_reducible rfl))
            try simp only [Act.put, List.setIfInBounds_toArray, List.set_cons_zero, List.set_cons_succ]
            refine wpAnyH_take (i := 18) (oi := ?_) (v := ?_) ?_ ?_ ?_ ?_ ?_ ?_ hHeld ?_
            rotate_left 2
            · (simp only [List.getElem?_toArray, List.getElem?_cons_succ, List.getElem?_cons_zero]; rfl)
            · kernel_rfl
            · kernel_rfl
            · kernel_rfl
            · exact fun _ _ _ h => h
            · refine Or.inl ⟨by rfl, ?_⟩
              (intro w hSw; (try dsimp only at hSw); (try obtain ⟨qS0, qS1⟩ := hSw); go_simp; try (with_reducible rfl))
            try simp only [Act.put, List.setIfInBounds_toArray, List.set_cons_zero, List.set_cons_succ]
            refine wpAnyH_take (i := 19) (oi := ?_) (v := ?_) ?_ ?_ ?_ ?_ ?_ ?_ hHeld ?_
            rotate_left 2
            · (simp only [List.getElem?_toArray, List.getElem?_cons_succ, List.getElem?_cons_zero]; rfl)
            · kernel_rfl
            · kernel_rfl
            · kernel_rfl
            · exact fun _ _ _ h => h
            · refine Or.inl ⟨by rfl, ?_⟩
              (intro w hSw; (try dsimp only at hSw); (try obtain ⟨qS0, qS1⟩ := hSw); go_simp; try (with_reducible rfl))
            try simp only [Act.put, List.setIfInBounds_toArray, List.set_cons_zero, List.set_cons_succ]
            refine wpAnyH_ready (rs := [14]) (by kernel_rfl) (by simp) ?_
            refine AllReadyH.cons rfl (fun K hK => ?_) AllReadyH.nil
            go_simp
            go_at_call 67
            refine (CF2.out _ (HU.out.ext (by (repeat' (first | (with_reducible exact Below.refl _ _) | (with_reducible refine Below.mono (by assumption) ?_) | (with_reducible refine Below.trans ?_ (Below.mono (by assumption) ?_)) | (with_reducible refine Below.alloc ?_ ?_ _) | (with_reducible refine Below.drew ?_) | (with_reducible refine below_drewN ?_ _) | (with_reducible refine Below.setCell ?_ ?_ _) | (simp only [World.size_alloc, World.size_setCell, World.size_drew, size_drewN]; omega) | omega))))).mono ?_
            rintro e w4 ⟨B, cB, rfl, hF, _, hb⟩
            obtain ⟨bb, offb, rfl, cF⟩ := HFY.out _ _ hF
            have hb4 : Ext wr w4 := by (repeat' (first | (with_reducible exact Below.refl _ _) | (with_reducible refine Below.mono (by assumption) ?_) | (with_reducible refine Below.trans ?_ (Below.mono (by assumption) ?_)) | (with_reducible refine Below.alloc ?_ ?_ _) | (with_reducible refine Below.drew ?_) | (with_reducible refine below_drewN ?_ _) | (with_reducible refine Below.setCell ?_ ?_ _) | (simp only [World.size_alloc, World.size_setCell, World.size_drew, size_drewN]; omega) | omega))
            clear hF hb
            go_wp2_with (fail)
            clear hHeld
            refine hK.out _ _ ⟨hb4.keep hb0 c0, hb4.keep hb0 c1, hb4.keep hb0 c2'⟩ (fun hHeld => ?_)
            clear hK K
            try simp only [Act.put, List.setIfInBounds_toArray, List.set_cons_zero, List.set_cons_succ]
            refine wpAnyH_take (i := 20) (oi := ?_) (v := ?_) ?_ ?_ ?_ ?_ ?_ ?_ hHeld ?_
            rotate_left 2
            · (simp only [List.getElem?_toArray, List.getElem?_cons_succ, List.getElem?_cons_zero]; rfl)
            · kernel_rfl
            · kernel_rfl
            · kernel_rfl
            · exact fun _ _ _ h => h
            · refine Or.inl ⟨by rfl, ?_⟩
              (intro w hSw; (try dsimp only at hSw); (try obtain ⟨qS0, qS1⟩ := hSw); go_simp; try (with_reducible rfl))
            try simp only [Act.put, List.setIfInBounds_toArray, List.set_cons_zero, List.set_cons_succ]
            refine wpAnyH_ready (rs := [21]) (by kernel_rfl) (by simp) ?_
            refine AllReadyH.cons rfl (fun K hK => ?_) AllReadyH.nil
            go_simp
            refine hK.out _ _ hHeld (fun hHeld => ?_)
            clear hK K
            try simp only [Act.put, List.setIfInBounds_toArray, List.set_cons_zero, List.set_cons_succ]
            refine wpAnyH_take (i := 22) (oi := ?_) (v := ?_) ?_ ?_ ?_ ?_ ?_ ?_ hHeld ?_
            rotate_left 2
            · (simp only [List.getElem?_toArray, List.getElem?_cons_succ, List.getElem?_cons_zero]; rfl)
            · kernel_rfl
            · kernel_rfl
            · kernel_rfl
            · exact fun _ _ _ h => h
            · refine Or.inl ⟨by rfl, ?_⟩
              (intro w hSw; (try dsimp only at hSw); (try obtain ⟨qS0, qS1⟩ := hSw); go_simp; try (with_reducible rfl))
            try simp only [Act.put, List.setIfInBounds_toArray, List.set_cons_zero, List.set_cons_succ]
            refine wpAnyH_take (i := 23) (oi := ?_) (v := ?_) ?_ ?_ ?_ ?_ ?_ ?_ hHeld ?_
            rotate_left 2
            · (simp only [List.getElem?_toArray, List.getElem?_cons_succ, List.getElem?_cons_zero]; rfl)
            · kernel_rfl
            · kernel_rfl
            · kernel_rfl
            · exact fun _ _ _ h => h
            · refine Or.inl ⟨by rfl, ?_⟩
              (intro w hSw; (try dsimp only at hSw); (try obtain ⟨qS0, qS1⟩ := hSw); go_simp; try (with_reducible rfl))
            try simp only [Act.put, List.setIfInBounds_toArray, List.set_cons_zero, List.set_cons_succ]
            refine wpAnyH_done (by kernel_rfl) ?_ _
            go_wp2
            · rename_i hfv
              have hsb : single3 L ⟨a, y, 3⟩ = true := HSV.out.2 hfv
              have hres : L.any (single3 L) = true := any_true HX.out hsb
              have HRR := Lib.hid (HR.out.trans hres)
              clear hsb hres
              go_ret
              exact ⟨ret_bool HRR.out.symm, hE0.tr hb4⟩
            · rename_i hfv
              have hsb : single3 L ⟨a, y, 3⟩ = false := by
                cases hq : single3 L ⟨a, y, 3⟩ with
                | false => rfl
                | true => have := HSV.out.1 hq; omega
              have hst := HA.out.step (p := fun e => !single3 L e) HX.out (by rw [hsb]; rfl)
              exact ⟨⟨k + 1, by omega, by go_num, hE.tr hb4, hst⟩, by simp [intOf]; omega⟩
          · have hx30 : (x2 == 3) = false := by simpa using hx3
            rw [hx30, Bool.false_and] at hsv
            have hst := HA.out.step (p := fun e => !single3 L e) HX.out (by rw [hsv]; rfl)
            have HST := Lib.hid hst
            clear hsv hst hx3
            go_wp2
            go_quiet (fail)
            go_wp2
            exact ⟨⟨k + 1, by omega, by go_num, below_drewN hE _, HST.out⟩, by simp [intOf]; omega⟩
        · obtain rfl : k = L.length := by omega
          have hres : L.any (single3 L) = false := HA.out.any_not
          have HRR := Lib.hid (HR.out.trans hres)
          clear hres
          go_wp2
          go_ret
          exact ⟨ret_bool HRR.out.symm, hE0⟩
    · have hre : hasA L kind = false := by unfold hasA; rw [if_neg h1, if_neg h2, if_neg h3, if_neg h4]
      have HR := Lib.hid hre
      clear hre
      have k1 : (kind == 1) = false := by simpa using h1
      have k2 : (kind == 2) = false := by simpa using h2
      have k3 : (kind == 3) = false := by simpa using h3
      have k4 : (kind == 4) = false := by simpa using h4
      clear h1 h2 h3 h4
      go_enter Tryz.func40, Tryz.ntmps40
      go_wp2_with (fail)
      go_at_call 64
      refine (CV.out _ (hx.ext (by (repeat' (first | (with_reducible exact Below.refl _ _) | (with_reducible refine Below.mono (by assumption) ?_) | (with_reducible refine Below.trans ?_ (Below.mono (by assumption) ?_)) | (with_reducible refine Below.alloc ?_ ?_ _) | (with_reducible refine Below.drew ?_) | (with_reducible refine below_drewN ?_ _) | (with_reducible refine Below.setCell ?_ ?_ _) | (simp only [World.size_alloc, World.size_setCell, World.size_drew, size_drewN]; omega) | omega))))).mono ?_
      rintro e w1 ⟨rfl, hb⟩
      obtain ⟨hc, hf, hz, hs⟩ := bcell hb
      (try simp only [World.size_alloc, World.size_setCell, World.size_drew, size_drewN] at hs); (first | have l0 := Nat.lt_of_lt_of_le l0 (show _ ≤ w1.heap.size by omega) | have l0 : w.heap.size < w1.heap.size := (by omega) | skip); (try have l0e := Nat.le_of_lt l0); (try have l0f := Nat.le_add_right_of_le (k := 1) l0e); (try have l1 := Nat.lt_of_lt_of_le l1 (show _ ≤ w1.heap.size by omega)); (try have l1e := Nat.le_of_lt l1); (try have l1f := Nat.le_add_right_of_le (k := 1) l1e); (try have l2 := Nat.lt_of_lt_of_le l2 (show _ ≤ w1.heap.size by omega)); (try have l2e := Nat.le_of_lt l2); (try have l2f := Nat.le_add_right_of_le (k := 1) l2e); (try have l3 := Nat.lt_of_lt_of_le l3 (show _ ≤ w1.heap.size by omega)); (try have l3e := Nat.le_of_lt l3); (try have l3f := Nat.le_add_right_of_le (k := 1) l3e)
      go_wp2
      go_ret
      exact ⟨ret_bool HR.out.symm, hb⟩
end Go.Proofs.YtmbdacfgmiielaaGreat
