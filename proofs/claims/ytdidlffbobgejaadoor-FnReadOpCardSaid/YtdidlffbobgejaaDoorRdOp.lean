/-
  Contracts of ReadOp, the reference's and the program's.
-/
import Derived.Test.YtdidlffbobgejaaDoorRdOpD
import Derived.BigQuiet
import Derived.Lib.IndexBytes
import Derived.Lib.SlicesS
import Derived.Deep.CutRange
import Derived.Deep.CutBlock
import Derived.Deep.Draws
import Derived.Deep.RegionHeld3
namespace Go.Proofs.YtdidlffbobgejaaDoor
set_option linter.unusedSimpArgs false
set_option linter.unusedVariables false
set_option maxRecDepth 100000
open Go.RowKit Go.Shelf

/-- what the first k bytes write -/
def pre10 (l : List UInt8) : Nat → Int
  | 0 => 0
  | k + 1 => 10 * pre10 l k + ((((l[k]?).getD 48).toNat : Int) - 48)
def dgR (l : List UInt8) : Int := match digs l with | some n => (n : Int) | none => -1
def isDig (l : List UInt8) (k : Nat) : Prop := 48 ≤ ((l[k]?).getD 48).toNat ∧ ((l[k]?).getD 48).toNat ≤ 57
theorem digs_all {l : List UInt8} {n : Nat} (h : digs l = some n) : l.length ≤ 2 ∧ ∀ k, isDig l k := by
  unfold digs at h
  split at h
  · rename_i a
    split at h
    · refine ⟨by simp, fun k => ?_⟩
      unfold isDig
      cases k with
      | zero => simpa using ‹_ ∧ _›
      | succ k => simp
    · cases h
  · rename_i a b
    split at h
    · rename_i hc
      refine ⟨by simp, fun k => ?_⟩
      unfold isDig
      match k with
      | 0 => simp; omega
      | 1 => simp; omega
      | k + 2 => simp
    · cases h
  · cases h
theorem dgR_bad {l : List UInt8} (h : 2 < l.length ∨ ∃ k, ¬ isDig l k) : dgR l = -1 := by
  unfold dgR
  cases hd : digs l with
  | none => rfl
  | some n =>
    obtain ⟨h1, h2⟩ := digs_all hd
    rcases h with h | ⟨k, h⟩
    · omega
    · exact absurd (h2 k) h
theorem pre10_bd {l : List UInt8} {k : Nat} (hk : k ≤ 2) (hd : ∀ j, j < k → isDig l j) : 0 ≤ pre10 l k ∧ pre10 l k < 100 ∧ (k ≤ 1 → pre10 l k < 10) := by
  match k, hk with
  | 0, _ => simp [pre10]
  | 1, _ =>
    have h0 := hd 0 (by omega)
    unfold isDig at h0
    simp only [pre10]
    omega
  | 2, _ =>
    have h0 := hd 0 (by omega)
    have h1 := hd 1 (by omega)
    unfold isDig at h0 h1
    simp only [pre10]
    omega
theorem dgR_fin {l : List UInt8} {n : Nat} (h0 : l ≠ []) (h2 : l.length ≤ 2) (hd : ∀ j, j < l.length → isDig l j) (hn : pre10 l l.length = n) : dgR l = if (⟨(Lib.decDigits n).toArray⟩ : ByteArray) = ⟨l.toArray⟩ then (n : Int) else -1 := by
  have hnb := pre10_bd h2 hd
  have hlt : n < 100 := by omega
  by_cases he : Lib.decDigits n = l
  · rw [if_pos (by rw [he])]
    unfold dgR
    rw [← he, digs_dec n hlt]
  · rw [if_neg (fun h => he (by have := congrArg (fun b : ByteArray => b.data.toList) h; simpa using this))]
    unfold dgR
    cases hg : digs l with
    | none => rfl
    | some m =>
      exfalso
      apply he
      have h3 := digs_of hg
      have h4 : m = n := by
        match l, h0, h2 with
        | [a], _, _ =>
          have hg2 : (if 48 ≤ a.toNat ∧ a.toNat ≤ 57 then some (a.toNat - 48) else none) = some m := hg
          by_cases hc : 48 ≤ a.toNat ∧ a.toNat ≤ 57
          · rw [if_pos hc] at hg2
            have := Option.some.inj hg2
            simp [pre10] at hn
            omega
          · rw [if_neg hc] at hg2
            cases hg2
        | [a, b], _, _ =>
          have hg2 : (if 49 ≤ a.toNat ∧ a.toNat ≤ 57 ∧ 48 ≤ b.toNat ∧ b.toNat ≤ 57 then some ((a.toNat - 48) * 10 + (b.toNat - 48)) else none) = some m := hg
          by_cases hc : 49 ≤ a.toNat ∧ a.toNat ≤ 57 ∧ 48 ≤ b.toNat ∧ b.toNat ≤ 57
          · rw [if_pos hc] at hg2
            have := Option.some.inj hg2
            simp [pre10] at hn
            omega
          · rw [if_neg hc] at hg2
            cases hg2
      rw [h4] at h3
      exact h3.symm
theorem byte_at (s : ByteArray) (k : Nat) (h : k < s.size) : (s.data.toList[k]?).getD 48 = s[k] := by
  have : s.data.toList[k]? = some s.data.toList[k] := List.getElem?_eq_getElem (by simpa using h)
  rw [this]
  rfl

set_option maxHeartbeats 2000000 in
theorem l1Read_c (s : ByteArray) (w : World) : Calls Tryd.prog 29 #[.string s] w fun e w' => e = .returned (.int .i64 (dgR s.data.toList)) ∧ Ext w w' := by
  have hbad := dgR_bad (l := s.data.toList)
  have hfin := fun n => dgR_fin (l := s.data.toList) (n := n)
  have hby := byte_at s
  have hsz : s.data.toList.length = s.size := Array.length_toList
  have hle : s.data.toList ≠ [] ∨ s = ⟨#[]⟩ := by
    by_cases h : s.data.toList = []
    · exact .inr (ba_eq h)
    · exact .inl h
  have hself : (⟨s.data.toList.toArray⟩ : ByteArray) = s := (ba_eq rfl).symm
  have hnil : s = ⟨#[]⟩ → dgR s.data.toList = -1 := fun h => by rw [h]; rfl
  generalize dgR s.data.toList = R at hbad hfin hnil ⊢
  have hpb := fun k => pre10_bd (l := s.data.toList) (k := k)
  have hps : ∀ k, pre10 s.data.toList (k + 1) = 10 * pre10 s.data.toList k + ((((s.data.toList[k]?).getD 48).toNat : Int) - 48) := fun k => rfl
  have hp0 : pre10 s.data.toList 0 = 0 := rfl
  have hid : ∀ k, isDig s.data.toList k ↔ 48 ≤ ((s.data.toList[k]?).getD 48).toNat ∧ ((s.data.toList[k]?).getD 48).toNat ≤ 57 := fun k => Iff.rfl
  rw [hself] at hfin
  generalize pre10 s.data.toList = PR at hfin hpb hps hp0
  generalize s.data.toList = l at hbad hfin hby hsz hle hpb hps hid
  have HB := Lib.hid hbad
  have HF := Lib.hid hfin
  have HY := Lib.hid hby
  have HP := Lib.hid hpb
  have HS := Lib.hid hps
  have H0 := Lib.hid hp0
  have HI := Lib.hid hid
  have HL := Lib.hid hle
  have HN := Lib.hid hnil
  have HZ := Lib.hid hsz
  clear hbad hfin hby hpb hps hp0 hid hle hnil hsz hself
  go_enter Tryd.func29, Tryd.ntmps29
  go_wp2
  go_loopw [3, 4] (fun n i wr => ∃ k : Nat, k ≤ s.size ∧ k ≤ 2 ∧ i = .int .i64 k ∧ n = .int .i64 (PR k) ∧ (∀ j, j < k → isDig l j) ∧ Ext w wr) (fun _ i _ => s.size - (intOf i).toNat)
  case atStart => exact ⟨0, Nat.zero_le _, by omega, rfl, by rw [H0.out], fun j hj => by omega, by (repeat' (first | (with_reducible exact Below.refl _ _) | (with_reducible refine Below.mono (by assumption) ?_) | (with_reducible refine Below.trans ?_ (Below.mono (by assumption) ?_)) | (with_reducible refine Below.alloc ?_ ?_ _) | (with_reducible refine Below.drew ?_) | (with_reducible refine below_drewN ?_ _) | (with_reducible refine Below.setCell ?_ ?_ _) | (simp only [World.size_alloc, World.size_setCell, World.size_drew, size_drewN]; omega) | omega))⟩
  case round =>
    obtain ⟨k, hk, hk2, rfl, rfl, hall, hE⟩ := hrel
    have HA := Lib.hid hall
    clear hall
    by_cases hlt : k < s.size
    · have hy := HY.out k hlt
      have hi := HI.out k
      rw [hy] at hi
      have hp := HP.out k hk2 HA.out
      have hs := HS.out k
      rw [hy] at hs
      generalize hsk : s[k] = y at hi hs
      by_cases hbad : 2 ≤ k ∨ ¬ (48 ≤ y.toNat ∧ y.toNat ≤ 57)
      · have hr : R = -1 := HB.out (by
          rcases hbad with h | h
          · exact .inl (by rw [HZ.out]; omega)
          · exact .inr ⟨k, fun h2 => h (hi.1 h2)⟩)
        have HR := Lib.hid hr
        clear hr hi hs hp hy
        go_wp2
        all_goals first
          | (go_ret; exact ⟨by rw [HR.out]; rfl, hE⟩)
          | (exfalso; omega)
      · have hk1 : k ≤ 1 := by omega
        have hdg : 48 ≤ y.toNat ∧ y.toNat ≤ 57 := by omega
        have hn := hi.2 hdg
        have HNX := Lib.hid (show ∀ j, j < k + 1 → isDig l j from fun j hj => by
          rcases Nat.lt_or_ge j k with h | h
          · exact HA.out j h
          · obtain rfl : j = k := by omega
            exact hn)
        have h10 := hp.2.2 hk1
        clear hn hi hy
        go_wp2
        all_goals first
          | (exfalso; omega)
          | exact ⟨⟨k + 1, by omega, by omega, by go_num, by first | (rw [hs]; done) | (rw [hs]; go_num), HNX.out, hE⟩, by simp [intOf]; omega⟩
    · obtain rfl : k = s.size := by omega
      by_cases hz : s = ⟨#[]⟩
      · have hr := HN.out hz
        have HR := Lib.hid hr
        clear hr
        subst hz
        go_wp2
        go_ret
        exact ⟨by rw [HR.out]; rfl, hE⟩
      · have hnl : l ≠ [] := by
          rcases HL.out with h | h
          · exact h
          · exact absurd h hz
        have hp := HP.out s.size hk2 HA.out
        obtain ⟨n, hn⟩ := Int.eq_ofNat_of_zero_le hp.1
        have hlt2 : n < 100 := by omega
        have hfin := HF.out n hnl (by rw [HZ.out]; exact hk2) (fun j hj => HA.out j (by rw [← HZ.out]; exact hj)) (by rw [HZ.out]; exact hn)
        have CN : Hid (∀ w, Calls Tryd.prog 36 #[.int .i64 n] w fun e w' => e = .returned (.string ⟨(Lib.decDigits n).toArray⟩) ∧ Ext w w') := Lib.hid (l1Number_c n hlt2)
        generalize (⟨(Lib.decDigits n).toArray⟩ : ByteArray) = D at CN hfin
        have HFN := Lib.hid hfin
        clear hfin hp
        rw [hn]
        have hne : s.toList ≠ [] := fun h => hz (ba_eq (by rw [← ByteArray.toList_eq]; exact h))
        have hz2 : (s.toList = []) = False := eq_false hne
        have hz3 : s.toList.isEmpty = false := by simp [hne]
        go_wp2_with (fail)
        go_at_call 36
        refine (CN.out _).mono ?_
        rintro e w3 ⟨rfl, hb⟩
        obtain ⟨hc, hf, hz, hs⟩ := bcell hb
        (try simp only [World.size_alloc, World.size_setCell, World.size_drew, size_drewN] at hs); (first | have l0 := Nat.lt_of_lt_of_le l0 (show _ ≤ w3.heap.size by omega) | have l0 : w.heap.size < w3.heap.size := (by omega) | skip); (try have l0e := Nat.le_of_lt l0); (try have l0f := Nat.le_add_right_of_le (k := 1) l0e); (try have l1 := Nat.lt_of_lt_of_le l1 (show _ ≤ w3.heap.size by omega)); (try have l1e := Nat.le_of_lt l1); (try have l1f := Nat.le_add_right_of_le (k := 1) l1e); (try have l2 := Nat.lt_of_lt_of_le l2 (show _ ≤ w3.heap.size by omega)); (try have l2e := Nat.le_of_lt l2); (try have l2f := Nat.le_add_right_of_le (k := 1) l2e); (try have l3 := Nat.lt_of_lt_of_le l3 (show _ ≤ w3.heap.size by omega)); (try have l3e := Nat.le_of_lt l3); (try have l3f := Nat.le_add_right_of_le (k := 1) l3e)
        have hE3 := hE.tr hb
        clear hc hf hb
        by_cases hD : D = s
        · have hfn := HFN.out
          rw [if_pos hD] at hfn
          have HFN2 := Lib.hid hfn
          have hd2 : (D.toList == s.toList) = true := (Lib.bytes_beq_iff _ _).2 hD
          clear hfn
          go_wp2
          go_ret
          exact ⟨by rw [HFN2.out]; rfl, hE3⟩
        · have hfn := HFN.out
          rw [if_neg hD] at hfn
          have HFN2 := Lib.hid hfn
          have hd2 : (D.toList == s.toList) = false := (Lib.bytes_beq_false_iff _ _).2 hD
          clear hfn
          go_wp2
          go_ret
          exact ⟨by rw [HFN2.out]; rfl, hE3⟩
theorem rd3_of (a : Int) (x y : List UInt8) : rd3 a (digs x) (digs y) = if opv ⟨a, dgR x, dgR y⟩ = true then some ⟨a, dgR x, dgR y⟩ else none := by
  have hn : ∀ b c : Int, b = -1 ∨ c = -1 → opv ⟨a, b, c⟩ = false := fun b c h => by
    cases ho : opv ⟨a, b, c⟩ with
    | false => rfl
    | true =>
      have := opv_facts3 ho
      simp only at this
      omega
  unfold dgR rd3
  cases hx : digs x with
  | none => simp [hn]
  | some n =>
    cases hy : digs y with
    | none => simp [hn]
    | some m => rfl
/-- what ReadOp hands back -/
def RdP (l : List UInt8) (w : World) (e : Ending) (w' : World) : Prop := e = .returned (match rdo l with | some o => .tuple #[.agg #[.int .i64 o.a, .int .i64 o.b, .int .i64 o.c], .bool true] | none => .tuple #[.agg #[.int .i64 0, .int .i64 0, .int .i64 0], .bool false]) ∧ Ext w w'
theorem rdo_short {l : List UInt8} (h : l.length < 4) : rdo l = none := by
  unfold rdo
  split
  · rename_i k y e v
    split
    · have : v = [] := by
        cases v with
        | nil => rfl
        | cons a v => simp at h; omega
      subst this
      unfold rd3 digs
      split <;> simp_all
    · rfl
  · rfl
theorem rdo_four {l : List UInt8} {k y e : UInt8} {v : List UInt8} (hl : l = k :: y :: e :: v) : rdo l = if (k = 114 ∨ k = 119) ∧ e = 61 then rd3 (if k = 119 then 2 else 1) (digs [y]) (digs v) else none := by
  subst hl
  rfl
theorem four_of (s : ByteArray) (h : 4 ≤ s.size) : s.data.toList = s[0] :: s[1] :: s[2] :: s.data.toList.drop 3 := by
  obtain ⟨⟨l⟩⟩ := s
  match l, h with
  | a :: b :: c :: d :: l, _ => rfl

theorem ext_one (s : ByteArray) (h : 4 ≤ s.size) : (s.extract 1 2).data.toList = [s[1]] := by
  obtain ⟨⟨l⟩⟩ := s
  match l, h with
  | a :: b :: c :: d :: l, _ => simp [ByteArray.extract]; rfl
set_option maxHeartbeats 4000000 in
theorem specReadOp_c (s : ByteArray) (w : World) : Calls Tryd.prog 8 #[.string s] w (RdP s.data.toList w) := by
  unfold RdP
  by_cases h4 : s.size < 4
  · rw [rdo_short (by rw [show s.data.toList.length = s.size from Array.length_toList]; exact h4)]
    go_enter Tryd.func8, Tryd.ntmps8
    go_wp2
    obtain ⟨f0, f1, f2⟩ := box3 (Below.refl _ (w.alloc (.cells #[.int .i64 0, .int .i64 0, .int .i64 0] 23)))
    exact bodyPost_ret (v := .tuple #[.agg #[.int .i64 0, .int .i64 0, .int .i64 0], .bool false]) (by simp [results, Tryd.results8, go_sem, f0, f1, f2]) rfl ⟨rfl, by (repeat' (first | (with_reducible exact Below.refl _ _) | (with_reducible refine Below.mono (by assumption) ?_) | (with_reducible refine Below.trans ?_ (Below.mono (by assumption) ?_)) | (with_reducible refine Below.alloc ?_ ?_ _) | (with_reducible refine Below.drew ?_) | (with_reducible refine below_drewN ?_ _) | (with_reducible refine Below.setCell ?_ ?_ _) | (simp only [World.size_alloc, World.size_setCell, World.size_drew, size_drewN]; omega) | omega))⟩
  · have h4 : 4 ≤ s.size := by omega
    have i1 : (1 : Int) ≤ (s.size : Int) := by omega
    have i2 : (2 : Int) ≤ (s.size : Int) := by omega
    have i3 : (3 : Int) ≤ (s.size : Int) := by omega
    have j2 : 2 ≤ s.size := by omega
    have j3 : 3 ≤ s.size := by omega
    have i4 : decide ((s.size : Int) < 4) = false := decide_eq_false (by omega)
    have hr := rdo_four (four_of s h4)
    have C1 := fun w => l1Read_c (s.extract 1 2) w
    have C2 := fun w => l1Read_c (s.extract 3 s.size) w
    rw [ext_one s h4] at C1
    rw [Lib.extract_to_end] at C2
    rw [rd3_of] at hr
    generalize dgR [s[1]] = K1 at C1 hr
    generalize dgR (s.data.toList.drop 3) = K2 at C2 hr
    generalize rdo s.data.toList = RD at hr ⊢
    have C1 := Lib.hid C1
    have C2 := Lib.hid C2
    by_cases h2 : s[2] = 61
    · have b2 : ((s[2].toNat : Int) != 61) = false := by rw [h2]; rfl
      by_cases h0 : s[0] = 114
      · have b0 : ((s[0].toNat : Int) != 114) = false := by rw [h0]; rfl
        have b1 : ((s[0].toNat : Int) == 119) = false := by rw [h0]; rfl
        rw [if_pos ⟨.inl h0, h2⟩, if_neg (show ¬ s[0] = 119 by rw [h0]; decide)] at hr
        have CV : Hid (∀ w, Calls Tryd.prog 14 #[.agg #[.int .i64 1, .int .i64 K1, .int .i64 K2]] w fun e w' => e = .returned (.bool (opv ⟨1, K1, K2⟩)) ∧ Ext w w') := Lib.hid (fun w => specOpValid_c 1 K1 K2 w)
        generalize opv ⟨1, K1, K2⟩ = OV at CV hr
        go_enter Tryd.func8, Tryd.ntmps8
        go_upto_region 3 with (fail)
        go_cut [4] from 5 to 39 (fun p W => ∃ g, p = .pointer (some ⟨g, 0, none⟩) ∧ w.heap.size < g ∧ Blk W g 23 #[.int .i64 1, .int .i64 K1, .int .i64 K2] ∧ Ext (w.alloc (.cells #[.int .i64 0, .int .i64 0, .int .i64 0] 23)) W)
        case first =>
          go_region_held3 (fun _ => True) (trivial) (first
            | (go_at_call 29; with_reducible refine (C1.out _).mono ?_; rintro e w3 ⟨rfl, hb3⟩
               try (have hB3 := Blk.ext (show Blk (((w.alloc (.cells #[.int .i64 0, .int .i64 0, .int .i64 0] 23)).drew).alloc (.cells #[.int .i64 0, .int .i64 0, .int .i64 0] 23)) (w.heap.size + 1) 23 #[.int .i64 0, .int .i64 0, .int .i64 0] from (by have := Blk.new ((w.alloc (.cells #[.int .i64 0, .int .i64 0, .int .i64 0] 23)).drew) 23 #[.int .i64 0, .int .i64 0, .int .i64 0]; simpa using this)) hb3))
            | (go_at_call 29; with_reducible refine (C2.out _).mono ?_; rintro e w4 ⟨rfl, hb4⟩
               first
               | (have hB4 := Blk.ext hB3 hb4
                  have fz := hB4.frozen
                  obtain ⟨z0, z1, z2⟩ := (⟨hB4.cell 0, hB4.cell 1, hB4.cell 2⟩ : _ ∧ _ ∧ _)
                  simp only [List.getElem?_toArray, List.getElem?_cons_zero, List.getElem?_cons_succ] at z0 z1 z2)
               | (have hB4 := Blk.ext (Blk.new w3 23 #[.int .i64 0, .int .i64 0, .int .i64 0]) hb4
                  have fz := hB4.frozen
                  obtain ⟨z0, z1, z2⟩ := (⟨hB4.cell 0, hB4.cell 1, hB4.cell 2⟩ : _ ∧ _ ∧ _)
                  simp only [List.getElem?_toArray, List.getElem?_cons_zero, List.getElem?_cons_succ] at z0 z1 z2)
               | skip))
          all_goals go_wp2_with (fail)
          all_goals go_meet
          all_goals have y3 := hb3.size
          all_goals have y4 := hb4.size
          all_goals simp only [World.size_alloc, World.size_drew] at y3 y4
          · exact ⟨_, rfl, by omega, Blk.new _ _ _, by (repeat' (first | (with_reducible exact Below.refl _ _) | (with_reducible refine Below.mono (by assumption) ?_) | (with_reducible refine Below.trans ?_ (Below.mono (by assumption) ?_)) | (with_reducible refine Below.alloc ?_ ?_ _) | (with_reducible refine Below.drew ?_) | (with_reducible refine below_drewN ?_ _) | (with_reducible refine Below.setCell ?_ ?_ _) | (simp only [World.size_alloc, World.size_setCell, World.size_drew, size_drewN]; omega) | omega))⟩
          · refine ⟨_, rfl, by omega, ?_, by (repeat' (first | (with_reducible exact Below.refl _ _) | (with_reducible refine Below.mono (by assumption) ?_) | (with_reducible refine Below.trans ?_ (Below.mono (by assumption) ?_)) | (with_reducible refine Below.alloc ?_ ?_ _) | (with_reducible refine Below.drew ?_) | (with_reducible refine below_drewN ?_ _) | (with_reducible refine Below.setCell ?_ ?_ _) | (simp only [World.size_alloc, World.size_setCell, World.size_drew, size_drewN]; omega) | omega))⟩
            have := ((hB4.set_ 0 (.int .i64 1)).set_ 1 (.int .i64 K1)).set_ 2 (.int .i64 K2)
            simpa using this
          · refine ⟨_, rfl, by omega, ?_, by (repeat' (first | (with_reducible exact Below.refl _ _) | (with_reducible refine Below.mono (by assumption) ?_) | (with_reducible refine Below.trans ?_ (Below.mono (by assumption) ?_)) | (with_reducible refine Below.alloc ?_ ?_ _) | (with_reducible refine Below.drew ?_) | (with_reducible refine below_drewN ?_ _) | (with_reducible refine Below.setCell ?_ ?_ _) | (simp only [World.size_alloc, World.size_setCell, World.size_drew, size_drewN]; omega) | omega))⟩
            have := ((hB4.set_ 0 (.int .i64 1)).set_ 1 (.int .i64 K1)).set_ 2 (.int .i64 K2)
            simpa using this
        case rest =>
          obtain ⟨g, rfl, hg, hB, hE⟩ := hcut
          have fz := hB.frozen
          obtain ⟨z0, z1, z2⟩ := (⟨hB.cell 0, hB.cell 1, hB.cell 2⟩ : _ ∧ _ ∧ _)
          simp only [List.getElem?_toArray, List.getElem?_cons_zero, List.getElem?_cons_succ] at z0 z1 z2
          have hgl := hB.lt
          have hR := (Blk.new w 23 #[.int .i64 0, .int .i64 0, .int .i64 0]).ext hE
          go_wp2_with (fail)
          go_at_call 14
          refine (CV.out _).mono ?_
          rintro e w6 ⟨rfl, hb6⟩
          have e6 := hE.tr hb6
          have hB6 := hB.ext hb6
          have hR6 := hR.ext hb6
          have hl6 := hR6.lt
          have hgl6 := hB6.lt
          clear fz z0 z1 z2
          have fz := hB6.frozen
          have fr := hR6.frozen
          obtain ⟨z0, z1, z2⟩ := (⟨hB6.cell 0, hB6.cell 1, hB6.cell 2⟩ : _ ∧ _ ∧ _)
          obtain ⟨r0, r1, r2⟩ := (⟨hR6.cell 0, hR6.cell 1, hR6.cell 2⟩ : _ ∧ _ ∧ _)
          simp only [List.getElem?_toArray, List.getElem?_cons_zero, List.getElem?_cons_succ] at z0 z1 z2 r0 r1 r2
          cases OV with
          | true =>
            simp only [if_true] at hr
            subst hr
            go_wp2
            have hF := ((hR6.set_ 0 (.int .i64 1)).set_ 1 (.int .i64 K1)).set_ 2 (.int .i64 K2)
            obtain ⟨f0, f1, f2⟩ := (⟨hF.cell 0, hF.cell 1, hF.cell 2⟩ : _ ∧ _ ∧ _)
            simp at f0 f1 f2
            exact bodyPost_ret (v := .tuple #[.agg #[.int .i64 1, .int .i64 K1, .int .i64 K2], .bool true]) (by simp [results, Tryd.results8, go_sem, f0, f1, f2]) rfl ⟨rfl, by (repeat' (first | (with_reducible exact Below.refl _ _) | (with_reducible refine Below.mono (by assumption) ?_) | (with_reducible refine Below.trans ?_ (Below.mono (by assumption) ?_)) | (with_reducible refine Below.alloc ?_ ?_ _) | (with_reducible refine Below.drew ?_) | (with_reducible refine below_drewN ?_ _) | (with_reducible refine Below.setCell ?_ ?_ _) | (simp only [World.size_alloc, World.size_setCell, World.size_drew, size_drewN]; omega) | omega))⟩
          | false =>
            simp only [Bool.false_eq_true, if_false] at hr
            subst hr
            go_wp2
            have hF := ((hR6.set_ 0 (.int .i64 0)).set_ 1 (.int .i64 0)).set_ 2 (.int .i64 0)
            obtain ⟨f0, f1, f2⟩ := (⟨hF.cell 0, hF.cell 1, hF.cell 2⟩ : _ ∧ _ ∧ _)
            simp at f0 f1 f2
            exact bodyPost_ret (v := .tuple #[.agg #[.int .i64 0, .int .i64 0, .int .i64 0], .bool false]) (by simp [results, Tryd.results8, go_sem, f0, f1, f2]) rfl ⟨rfl, by (repeat' (first | (with_reducible exact Below.refl _ _) | (with_reducible refine Below.mono (by assumption) ?_) | (with_reducible refine Below.trans ?_ (Below.mono (by assumption) ?_)) | (with_reducible refine Below.alloc ?_ ?_ _) | (with_reducible refine Below.drew ?_) | (with_reducible refine below_drewN ?_ _) | (with_reducible refine Below.setCell ?_ ?_ _) | (simp only [World.size_alloc, World.size_setCell, World.size_drew, size_drewN]; omega) | omega))⟩
      · have n0 : s[0].toNat ≠ 114 := fun h => h0 (u8_eq h)
        have b0 : ((s[0].toNat : Int) != 114) = true := by simp; omega
        by_cases h1 : s[0] = 119
        · have b1 : ((s[0].toNat : Int) != 119) = false := by rw [h1]; rfl
          have b3 : ((s[0].toNat : Int) == 119) = true := by rw [h1]; rfl
          rw [if_pos ⟨.inr h1, h2⟩, if_pos h1] at hr
          have CV : Hid (∀ w, Calls Tryd.prog 14 #[.agg #[.int .i64 2, .int .i64 K1, .int .i64 K2]] w fun e w' => e = .returned (.bool (opv ⟨2, K1, K2⟩)) ∧ Ext w w') := Lib.hid (fun w => specOpValid_c 2 K1 K2 w)
          generalize opv ⟨2, K1, K2⟩ = OV at CV hr
          go_enter Tryd.func8, Tryd.ntmps8
          go_upto_region 3 with (fail)
          go_cut [4] from 5 to 39 (fun p W => ∃ g, p = .pointer (some ⟨g, 0, none⟩) ∧ w.heap.size < g ∧ Blk W g 23 #[.int .i64 1, .int .i64 K1, .int .i64 K2] ∧ Ext (w.alloc (.cells #[.int .i64 0, .int .i64 0, .int .i64 0] 23)) W)
          case first =>
            go_region_held3 (fun _ => True) (trivial) (first
              | (go_at_call 29; with_reducible refine (C1.out _).mono ?_; rintro e w3 ⟨rfl, hb3⟩
                 try (have hB3 := Blk.ext (show Blk (((w.alloc (.cells #[.int .i64 0, .int .i64 0, .int .i64 0] 23)).drew).alloc (.cells #[.int .i64 0, .int .i64 0, .int .i64 0] 23)) (w.heap.size + 1) 23 #[.int .i64 0, .int .i64 0, .int .i64 0] from (by have := Blk.new ((w.alloc (.cells #[.int .i64 0, .int .i64 0, .int .i64 0] 23)).drew) 23 #[.int .i64 0, .int .i64 0, .int .i64 0]; simpa using this)) hb3))
              | (go_at_call 29; with_reducible refine (C2.out _).mono ?_; rintro e w4 ⟨rfl, hb4⟩
                 first
                 | (have hB4 := Blk.ext hB3 hb4
                    have fz := hB4.frozen
                    obtain ⟨z0, z1, z2⟩ := (⟨hB4.cell 0, hB4.cell 1, hB4.cell 2⟩ : _ ∧ _ ∧ _)
                    simp only [List.getElem?_toArray, List.getElem?_cons_zero, List.getElem?_cons_succ] at z0 z1 z2)
                 | (have hB4 := Blk.ext (Blk.new w3 23 #[.int .i64 0, .int .i64 0, .int .i64 0]) hb4
                    have fz := hB4.frozen
                    obtain ⟨z0, z1, z2⟩ := (⟨hB4.cell 0, hB4.cell 1, hB4.cell 2⟩ : _ ∧ _ ∧ _)
                    simp only [List.getElem?_toArray, List.getElem?_cons_zero, List.getElem?_cons_succ] at z0 z1 z2)
                 | skip))
            all_goals go_wp2_with (fail)
            all_goals go_meet
            all_goals have y3 := hb3.size
            all_goals have y4 := hb4.size
            all_goals simp only [World.size_alloc, World.size_drew] at y3 y4
            · exact ⟨_, rfl, by omega, Blk.new _ _ _, by (repeat' (first | (with_reducible exact Below.refl _ _) | (with_reducible refine Below.mono (by assumption) ?_) | (with_reducible refine Below.trans ?_ (Below.mono (by assumption) ?_)) | (with_reducible refine Below.alloc ?_ ?_ _) | (with_reducible refine Below.drew ?_) | (with_reducible refine below_drewN ?_ _) | (with_reducible refine Below.setCell ?_ ?_ _) | (simp only [World.size_alloc, World.size_setCell, World.size_drew, size_drewN]; omega) | omega))⟩
            · refine ⟨_, rfl, by omega, ?_, by (repeat' (first | (with_reducible exact Below.refl _ _) | (with_reducible refine Below.mono (by assumption) ?_) | (with_reducible refine Below.trans ?_ (Below.mono (by assumption) ?_)) | (with_reducible refine Below.alloc ?_ ?_ _) | (with_reducible refine Below.drew ?_) | (with_reducible refine below_drewN ?_ _) | (with_reducible refine Below.setCell ?_ ?_ _) | (simp only [World.size_alloc, World.size_setCell, World.size_drew, size_drewN]; omega) | omega))⟩
              have := ((hB4.set_ 0 (.int .i64 1)).set_ 1 (.int .i64 K1)).set_ 2 (.int .i64 K2)
              simpa using this
            · refine ⟨_, rfl, by omega, ?_, by (repeat' (first | (with_reducible exact Below.refl _ _) | (with_reducible refine Below.mono (by assumption) ?_) | (with_reducible refine Below.trans ?_ (Below.mono (by assumption) ?_)) | (with_reducible refine Below.alloc ?_ ?_ _) | (with_reducible refine Below.drew ?_) | (with_reducible refine below_drewN ?_ _) | (with_reducible refine Below.setCell ?_ ?_ _) | (simp only [World.size_alloc, World.size_setCell, World.size_drew, size_drewN]; omega) | omega))⟩
              have := ((hB4.set_ 0 (.int .i64 1)).set_ 1 (.int .i64 K1)).set_ 2 (.int .i64 K2)
              simpa using this
          case rest =>
            obtain ⟨g, rfl, hg, hB, hE⟩ := hcut
            have fz := hB.frozen
            obtain ⟨z0, z1, z2⟩ := (⟨hB.cell 0, hB.cell 1, hB.cell 2⟩ : _ ∧ _ ∧ _)
            simp only [List.getElem?_toArray, List.getElem?_cons_zero, List.getElem?_cons_succ] at z0 z1 z2
            have hgl := hB.lt
            go_wp2_with (fail)
            go_at_call 14
            refine (CV.out _).mono ?_
            rintro e w6 ⟨rfl, hb6⟩
            have hsz : g < (World.setCell wc ⟨g, 0, none⟩ (.int .i64 2)).heap.size := by simp only [World.size_setCell]; omega
            have hEs : Ext (w.alloc (.cells #[.int .i64 0, .int .i64 0, .int .i64 0] 23)) (World.setCell wc ⟨g, 0, none⟩ (.int .i64 2)) := by (repeat' (first | (with_reducible exact Below.refl _ _) | (with_reducible refine Below.mono (by assumption) ?_) | (with_reducible refine Below.trans ?_ (Below.mono (by assumption) ?_)) | (with_reducible refine Below.alloc ?_ ?_ _) | (with_reducible refine Below.drew ?_) | (with_reducible refine below_drewN ?_ _) | (with_reducible refine Below.setCell ?_ ?_ _) | (simp only [World.size_alloc, World.size_setCell, World.size_drew, size_drewN]; omega) | omega))
            have e6 := hEs.tr hb6
            have hB6' := (hB.set_ 0 (.int .i64 2)).ext hb6
            have hB6 : Blk w6 g 23 #[.int .i64 2, .int .i64 K1, .int .i64 K2] := by simpa using hB6'
            have hR6 := (Blk.new w 23 #[.int .i64 0, .int .i64 0, .int .i64 0]).ext e6
            have hl6 := hR6.lt
            have hgl6 := hB6.lt
            clear fz z0 z1 z2
            have fz := hB6.frozen
            have fr := hR6.frozen
            obtain ⟨z0, z1, z2⟩ := (⟨hB6.cell 0, hB6.cell 1, hB6.cell 2⟩ : _ ∧ _ ∧ _)
            obtain ⟨r0, r1, r2⟩ := (⟨hR6.cell 0, hR6.cell 1, hR6.cell 2⟩ : _ ∧ _ ∧ _)
            simp only [List.getElem?_toArray, List.getElem?_cons_zero, List.getElem?_cons_succ] at z0 z1 z2 r0 r1 r2
            cases OV with
            | true =>
              simp only [if_true] at hr
              subst hr
              go_wp2
              have hF := ((hR6.set_ 0 (.int .i64 2)).set_ 1 (.int .i64 K1)).set_ 2 (.int .i64 K2)
              obtain ⟨f0, f1, f2⟩ := (⟨hF.cell 0, hF.cell 1, hF.cell 2⟩ : _ ∧ _ ∧ _)
              simp at f0 f1 f2
              exact bodyPost_ret (v := .tuple #[.agg #[.int .i64 2, .int .i64 K1, .int .i64 K2], .bool true]) (by simp [results, Tryd.results8, go_sem, f0, f1, f2]) rfl ⟨rfl, by (repeat' (first | (with_reducible exact Below.refl _ _) | (with_reducible refine Below.mono (by assumption) ?_) | (with_reducible refine Below.trans ?_ (Below.mono (by assumption) ?_)) | (with_reducible refine Below.alloc ?_ ?_ _) | (with_reducible refine Below.drew ?_) | (with_reducible refine below_drewN ?_ _) | (with_reducible refine Below.setCell ?_ ?_ _) | (simp only [World.size_alloc, World.size_setCell, World.size_drew, size_drewN]; omega) | omega))⟩
            | false =>
              simp only [Bool.false_eq_true, if_false] at hr
              subst hr
              go_wp2
              have hF := ((hR6.set_ 0 (.int .i64 0)).set_ 1 (.int .i64 0)).set_ 2 (.int .i64 0)
              obtain ⟨f0, f1, f2⟩ := (⟨hF.cell 0, hF.cell 1, hF.cell 2⟩ : _ ∧ _ ∧ _)
              simp at f0 f1 f2
              exact bodyPost_ret (v := .tuple #[.agg #[.int .i64 0, .int .i64 0, .int .i64 0], .bool false]) (by simp [results, Tryd.results8, go_sem, f0, f1, f2]) rfl ⟨rfl, by (repeat' (first | (with_reducible exact Below.refl _ _) | (with_reducible refine Below.mono (by assumption) ?_) | (with_reducible refine Below.trans ?_ (Below.mono (by assumption) ?_)) | (with_reducible refine Below.alloc ?_ ?_ _) | (with_reducible refine Below.drew ?_) | (with_reducible refine below_drewN ?_ _) | (with_reducible refine Below.setCell ?_ ?_ _) | (simp only [World.size_alloc, World.size_setCell, World.size_drew, size_drewN]; omega) | omega))⟩
        · have n1 : s[0].toNat ≠ 119 := fun h => h1 (u8_eq h)
          have b1 : ((s[0].toNat : Int) != 119) = true := by simp; omega
          rw [if_neg (fun h => by rcases h.1 with h | h; exact h0 h; exact h1 h)] at hr
          subst hr
          go_enter Tryd.func8, Tryd.ntmps8
          go_wp2
          obtain ⟨f0, f1, f2⟩ := box3 (Below.refl _ (w.alloc (.cells #[.int .i64 0, .int .i64 0, .int .i64 0] 23)))
          exact bodyPost_ret (v := .tuple #[.agg #[.int .i64 0, .int .i64 0, .int .i64 0], .bool false]) (by simp [results, Tryd.results8, go_sem, f0, f1, f2]) rfl ⟨rfl, by (repeat' (first | (with_reducible exact Below.refl _ _) | (with_reducible refine Below.mono (by assumption) ?_) | (with_reducible refine Below.trans ?_ (Below.mono (by assumption) ?_)) | (with_reducible refine Below.alloc ?_ ?_ _) | (with_reducible refine Below.drew ?_) | (with_reducible refine below_drewN ?_ _) | (with_reducible refine Below.setCell ?_ ?_ _) | (simp only [World.size_alloc, World.size_setCell, World.size_drew, size_drewN]; omega) | omega))⟩
    · have n2 : s[2].toNat ≠ 61 := fun h => h2 (u8_eq h)
      have b2 : ((s[2].toNat : Int) != 61) = true := by simp; omega
      rw [if_neg (fun h => h2 h.2)] at hr
      subst hr
      go_enter Tryd.func8, Tryd.ntmps8
      go_wp2
      obtain ⟨f0, f1, f2⟩ := box3 (Below.refl _ (w.alloc (.cells #[.int .i64 0, .int .i64 0, .int .i64 0] 23)))
      exact bodyPost_ret (v := .tuple #[.agg #[.int .i64 0, .int .i64 0, .int .i64 0], .bool false]) (by simp [results, Tryd.results8, go_sem, f0, f1, f2]) rfl ⟨rfl, by (repeat' (first | (with_reducible exact Below.refl _ _) | (with_reducible refine Below.mono (by assumption) ?_) | (with_reducible refine Below.trans ?_ (Below.mono (by assumption) ?_)) | (with_reducible refine Below.alloc ?_ ?_ _) | (with_reducible refine Below.drew ?_) | (with_reducible refine below_drewN ?_ _) | (with_reducible refine Below.setCell ?_ ?_ _) | (simp only [World.size_alloc, World.size_setCell, World.size_drew, size_drewN]; omega) | omega))⟩
end Go.Proofs.YtdidlffbobgejaaDoor
