/-
  Contract of the program's ReadOp.
-/
import Derived.Test.YtdidlffbobgejaaDoorRdOp
import Derived.Shelf.Strconv.AtoiAll
import Derived.Lib.SmallJoins
namespace Go.Proofs.YtdidlffbobgejaaDoor
set_option linter.unusedSimpArgs false
set_option linter.unusedVariables false
set_option maxRecDepth 100000
open Go.RowKit Go.Shelf

def Tryd.laysC172_ren : Go.Shelf.Ren := ⟨fun | 172 => 30 | 244 => 52 | 245 => 53 | 247 => 66 | 279 => 67 | 280 => 68 | 281 => 69 | 282 => 70 | 287 => 79 | 316 => 80 | 171 => 35 | 205 => 81 | 321 => 89 | 322 => 90 | 243 => 58 | 246 => 71 | 283 => 82 | 284 => 83 | 285 => 84 | 286 => 85 | 129 => 92 | 317 => 91 | 318 => 93 | 319 => 94 | 320 => 62 | 337 => 75 | 338 => 76 | n => n, fun | 9 => 9 | 3 => 3 | 75 => 52 | 76 => 53 | 4 => 4 | 5 => 5 | 167 => 90 | 37 => 28 | 0 => 0 | 85 => 91 | 2 => 2 | 168 => 93 | 53 => 101 | 175 => 105 | 46 => 70 | 210 => 109 | 127 => 122 | 145 => 125 | 143 => 123 | 21 => 21 | 171 => 111 | 173 => 113 | 212 => 127 | 51 => 99 | 20 => 20 | 213 => 128 | 232 => 115 | 233 => 116 | 80 => 58 | n => n, fun | 15 => 0 | 16 => 1 | 17 => 4 | 18 => 2 | 19 => 3 | n => n⟩
theorem Tryd.laysC172 : Go.Proofs.LaysC.n172 Tryd.prog Tryd.laysC172_ren := {
  mixed := by kernel_rfl
  f129 := Tryd.func92.trans (congrArg some (by kernel_rfl))
  f171 := Tryd.func35.trans (congrArg some (by kernel_rfl))
  f172 := Tryd.func30.trans (congrArg some (by kernel_rfl))
  f205 := Tryd.func81.trans (congrArg some (by kernel_rfl))
  f243 := Tryd.func58.trans (congrArg some (by kernel_rfl))
  f244 := Tryd.func52.trans (congrArg some (by kernel_rfl))
  f245 := Tryd.func53.trans (congrArg some (by kernel_rfl))
  f246 := Tryd.func71.trans (congrArg some (by kernel_rfl))
  f247 := Tryd.func66.trans (congrArg some (by kernel_rfl))
  f279 := Tryd.func67.trans (congrArg some (by kernel_rfl))
  f280 := Tryd.func68.trans (congrArg some (by kernel_rfl))
  f281 := Tryd.func69.trans (congrArg some (by kernel_rfl))
  f282 := Tryd.func70.trans (congrArg some (by kernel_rfl))
  f283 := Tryd.func82.trans (congrArg some (by kernel_rfl))
  f284 := Tryd.func83.trans (congrArg some (by kernel_rfl))
  f285 := Tryd.func84.trans (congrArg some (by kernel_rfl))
  f286 := Tryd.func85.trans (congrArg some (by kernel_rfl))
  f287 := Tryd.func79.trans (congrArg some (by kernel_rfl))
  f316 := Tryd.func80.trans (congrArg some (by kernel_rfl))
  f317 := Tryd.func91.trans (congrArg some (by kernel_rfl))
  f318 := Tryd.func93.trans (congrArg some (by kernel_rfl))
  f319 := Tryd.func94.trans (congrArg some (by kernel_rfl))
  f320 := Tryd.func62.trans (congrArg some (by kernel_rfl))
  f321 := Tryd.func89.trans (congrArg some (by kernel_rfl))
  f322 := Tryd.func90.trans (congrArg some (by kernel_rfl))
  f337 := Tryd.func75.trans (congrArg some (by kernel_rfl))
  f338 := Tryd.func76.trans (congrArg some (by kernel_rfl))
  t0 := Tryd.underlying0
  a0 := Tryd.isAgg0
  z0 := Tryd.sizeOf0
  v0 := Tryd.zeroValue0
  t2 := Tryd.underlying2
  a2 := Tryd.isAgg2
  z2 := Tryd.sizeOf2
  v2 := Tryd.zeroValue2
  t3 := Tryd.underlying3
  a3 := Tryd.isAgg3
  z3 := Tryd.sizeOf3
  v3 := Tryd.zeroValue3
  t4 := Tryd.underlying4
  a4 := Tryd.isAgg4
  z4 := Tryd.sizeOf4
  v4 := Tryd.zeroValue4
  t5 := Tryd.underlying5
  a5 := Tryd.isAgg5
  z5 := Tryd.sizeOf5
  v5 := Tryd.zeroValue5
  t9 := Tryd.underlying9
  a9 := Tryd.isAgg9
  z9 := Tryd.sizeOf9
  v9 := Tryd.zeroValue9
  t20 := Tryd.underlying20
  a20 := Tryd.isAgg20
  z20 := Tryd.sizeOf20
  v20 := Tryd.zeroValue20
  t21 := Tryd.underlying21
  a21 := Tryd.isAgg21
  z21 := Tryd.sizeOf21
  v21 := Tryd.zeroValue21
  t37 := Tryd.underlying28
  a37 := Tryd.isAgg28
  z37 := Tryd.sizeOf28
  v37 := Tryd.zeroValue28
  t46 := Tryd.underlying70
  a46 := Tryd.isAgg70
  z46 := Tryd.sizeOf70
  v46 := Tryd.zeroValue70
  t51 := Tryd.underlying99
  a51 := Tryd.isAgg99
  z51 := Tryd.sizeOf99
  v51 := Tryd.zeroValue99
  t53 := Tryd.underlying101
  a53 := Tryd.isAgg101
  z53 := Tryd.sizeOf101
  v53 := Tryd.zeroValue101
  t75 := Tryd.underlying52
  a75 := Tryd.isAgg52
  z75 := Tryd.sizeOf52
  v75 := Tryd.zeroValue52
  t76 := Tryd.underlying53
  a76 := Tryd.isAgg53
  z76 := Tryd.sizeOf53
  v76 := Tryd.zeroValue53
  t85 := Tryd.underlying91
  a85 := Tryd.isAgg91
  z85 := Tryd.sizeOf91
  v85 := Tryd.zeroValue91
  t127 := Tryd.underlying122
  a127 := Tryd.isAgg122
  z127 := Tryd.sizeOf122
  v127 := Tryd.zeroValue122
  t143 := Tryd.underlying123
  a143 := Tryd.isAgg123
  z143 := Tryd.sizeOf123
  v143 := Tryd.zeroValue123
  t145 := Tryd.underlying125
  a145 := Tryd.isAgg125
  z145 := Tryd.sizeOf125
  v145 := Tryd.zeroValue125
  t167 := Tryd.underlying90
  a167 := Tryd.isAgg90
  z167 := Tryd.sizeOf90
  v167 := Tryd.zeroValue90
  t168 := Tryd.underlying93
  a168 := Tryd.isAgg93
  z168 := Tryd.sizeOf93
  v168 := Tryd.zeroValue93
  t171 := Tryd.underlying111
  a171 := Tryd.isAgg111
  z171 := Tryd.sizeOf111
  v171 := Tryd.zeroValue111
  t173 := Tryd.underlying113
  a173 := Tryd.isAgg113
  z173 := Tryd.sizeOf113
  v173 := Tryd.zeroValue113
  t175 := Tryd.underlying105
  a175 := Tryd.isAgg105
  z175 := Tryd.sizeOf105
  v175 := Tryd.zeroValue105
  t210 := Tryd.underlying109
  a210 := Tryd.isAgg109
  z210 := Tryd.sizeOf109
  v210 := Tryd.zeroValue109
  t212 := Tryd.underlying127
  a212 := Tryd.isAgg127
  z212 := Tryd.sizeOf127
  v212 := Tryd.zeroValue127
  t213 := Tryd.underlying128
  a213 := Tryd.isAgg128
  z213 := Tryd.sizeOf128
  t232 := Tryd.underlying115
  a232 := Tryd.isAgg115
  z232 := Tryd.sizeOf115
  v232 := Tryd.zeroValue115
  t233 := Tryd.underlying116
  a233 := Tryd.isAgg116
  z233 := Tryd.sizeOf116
  v233 := Tryd.zeroValue116
  g15 := by kernel_rfl
  g16 := by kernel_rfl
  g17 := by kernel_rfl
  g18 := by kernel_rfl
  g19 := by kernel_rfl
  t80 := Tryd.underlying58
  a80 := Tryd.isAgg58
  z80 := Tryd.sizeOf58
  v80 := Tryd.zeroValue58
  i0 := by kernel_rfl
  i2 := by kernel_rfl
  i3 := by kernel_rfl
  i4 := by kernel_rfl
  i5 := by kernel_rfl
  i9 := by kernel_rfl
  i20 := by kernel_rfl
  i21 := by kernel_rfl
  i37 := by kernel_rfl
  i46 := by kernel_rfl
  i51 := by kernel_rfl
  i53 := by kernel_rfl
  i75 := by kernel_rfl
  i76 := by kernel_rfl
  i80 := by kernel_rfl
  i85 := by kernel_rfl
  i127 := by kernel_rfl
  i143 := by kernel_rfl
  i145 := by kernel_rfl
  i167 := by kernel_rfl
  i168 := by kernel_rfl
  i171 := by kernel_rfl
  i173 := by kernel_rfl
  i175 := by kernel_rfl
  i210 := by kernel_rfl
  i212 := by kernel_rfl
  i232 := by kernel_rfl
  i233 := by kernel_rfl
  m15 := by kernel_rfl
  m16 := by kernel_rfl
  m17 := by kernel_rfl
  m18 := by kernel_rfl
  m19 := by kernel_rfl
  c0 := by kernel_rfl
  c2 := by kernel_rfl
  c3 := by kernel_rfl
  c4 := by kernel_rfl
  c5 := by kernel_rfl
  c9 := by kernel_rfl
  c20 := by kernel_rfl
  c21 := by kernel_rfl
  c37 := by kernel_rfl
  c46 := by kernel_rfl
  c51 := by kernel_rfl
  c53 := by kernel_rfl
  c75 := by kernel_rfl
  c76 := by kernel_rfl
  c80 := by kernel_rfl
  c85 := by kernel_rfl
  c127 := by kernel_rfl
  c143 := by kernel_rfl
  c145 := by kernel_rfl
  c167 := by kernel_rfl
  c168 := by kernel_rfl
  c171 := by kernel_rfl
  c173 := by kernel_rfl
  c175 := by kernel_rfl
  c210 := by kernel_rfl
  c212 := by kernel_rfl
  c213 := by kernel_rfl
  c232 := by kernel_rfl
  c233 := by kernel_rfl }
/-- the library's two errors are there -/
def ErrVars (w : World) : Prop := (∃ e : Value, w.cell? ⟨Tryd.laysC172_ren.g 15, 0, none⟩ = some e ∧ (e = .nilIface ∨ ∃ te pe, e = .iface te pe) ∧ Tryd.laysC172_ren.g 15 < w.heap.size) ∧
  ∃ e : Value, w.cell? ⟨Tryd.laysC172_ren.g 16, 0, none⟩ = some e ∧ (e = .nilIface ∨ ∃ te pe, e = .iface te pe) ∧ Tryd.laysC172_ren.g 16 < w.heap.size
theorem ErrVars.ext {w w' : World} (h : ErrVars w) (hE : Ext w w') : ErrVars w' := by
  obtain ⟨⟨e, h1, h2, h3⟩, ⟨e', g1, g2, g3⟩⟩ := h
  exact ⟨⟨e, hE.keep h3 h1, h2, Nat.lt_of_lt_of_le h3 hE.size⟩, ⟨e', hE.keep g3 g1, g2, Nat.lt_of_lt_of_le g3 hE.size⟩⟩
theorem atoi_digs {l : List UInt8} {n : Nat} (h : digs l = some n) : Lib.atoiAll l = .ok n := by
  unfold digs at h
  split at h
  · rename_i a
    by_cases hc : 48 ≤ a.toNat ∧ a.toNat ≤ 57
    · rw [if_pos hc] at h
      have hn := Option.some.inj h
      have n1 : ¬ (a.toNat = 43 ∨ a.toNat = 45) := by omega
      have n2 : ¬ a.toNat = 45 := by omega
      have n3 : ¬ 9223372036854775808 ≤ a.toNat - 48 := by omega
      have n4 : ¬ 18446744073709551616 ≤ 0 * 10 + (a.toNat - 48) := by omega
      have n0 : ¬ a.toNat = 43 := by omega
      have m1 : ¬ 18446744073709551616 ≤ a.toNat - 48 := by omega
      subst hn
      simp [Lib.atoiAll, Lib.parseMag, Lib.parseUint10, n0, n2, n3, m1, hc.1, hc.2]
    · rw [if_neg hc] at h
      cases h
  · rename_i a b
    by_cases hc : 49 ≤ a.toNat ∧ a.toNat ≤ 57 ∧ 48 ≤ b.toNat ∧ b.toNat ≤ 57
    · rw [if_pos hc] at h
      have hn := Option.some.inj h
      have ha : 48 ≤ a.toNat ∧ a.toNat ≤ 57 := by omega
      have hb : 48 ≤ b.toNat ∧ b.toNat ≤ 57 := by omega
      have n1 : ¬ (a.toNat = 43 ∨ a.toNat = 45) := by omega
      have n2 : ¬ a.toNat = 45 := by omega
      have n4 : ¬ 18446744073709551616 ≤ 0 * 10 + (a.toNat - 48) := by omega
      have n5 : ¬ 1844674407370955162 ≤ 0 * 10 + (a.toNat - 48) := by omega
      have n6 : ¬ 18446744073709551616 ≤ (0 * 10 + (a.toNat - 48)) * 10 + (b.toNat - 48) := by omega
      have n7 : ¬ 9223372036854775808 ≤ (0 * 10 + (a.toNat - 48)) * 10 + (b.toNat - 48) := by omega
      have n0 : ¬ a.toNat = 43 := by omega
      have m1 : ¬ 18446744073709551616 ≤ a.toNat - 48 := by omega
      have m2 : ¬ 1844674407370955162 ≤ a.toNat - 48 := by omega
      have m3 : ¬ 18446744073709551616 ≤ (a.toNat - 48) * 10 + (b.toNat - 48) := by omega
      have m4 : ¬ 9223372036854775808 ≤ (a.toNat - 48) * 10 + (b.toNat - 48) := by omega
      subst hn
      simp [Lib.atoiAll, Lib.parseMag, Lib.parseUint10, n0, n2, m1, m2, m3, m4, ha.1, ha.2, hb.1, hb.2]
    · rw [if_neg hc] at h
      cases h
  · cases h
theorem atoi_c (s : ByteArray) (hs : s.size ≤ 1048576) (w : World) (hv : ErrVars w) : Calls Tryd.prog 30 #[.string s] w fun e w' => ∃ (v : Int) (ev : Value), e = .returned (.tuple #[.int .i64 v, ev]) ∧ (∀ n, digs s.data.toList = some n → v = n) ∧ Ext w w' := by
  obtain ⟨⟨e1, h1, h2, h3⟩, ⟨e2, g1, g2, g3⟩⟩ := hv
  cases ha : Lib.atoiAll s.data.toList
  · rename_i v
    refine (Any.strconv_Atoi_ok Tryd.laysC172 s (by omega) v ha w).mono ?_
    rintro e w' ⟨rfl, hw⟩
    refine ⟨v, .nilIface, rfl, fun n hn => ?_, ?_⟩
    · have := atoi_digs hn
      rw [ha] at this
      cases this
      rfl
    · rcases hw with rfl | ⟨t, rfl⟩
      · exact Below.refl _ _
      · exact Joins.below_bytesWorld _ _ _ _ (Nat.le_refl _)
  · refine (Any.strconv_Atoi_syntax Tryd.laysC172 s (by omega) ha e1 w h1 h2).mono ?_
    rintro e w' ⟨N, rfl, _, _, hb⟩
    refine ⟨_, _, rfl, fun n hn => ?_, hb⟩
    have := atoi_digs hn
    rw [ha] at this
    cases this
  · refine (Any.strconv_Atoi_range Tryd.laysC172 s (by omega) ha e2 w g1 g2).mono ?_
    rintro e w' ⟨N, rfl, _, _, hb⟩
    refine ⟨_, _, rfl, fun n hn => ?_, hb⟩
    have := atoi_digs hn
    rw [ha] at this
    cases this

/-- the operation that the program makes of a text, right or not -/
theorem rdo_comp (s : ByteArray) (h4 : 4 ≤ s.size) {v : Int} (hv : ∀ n, digs (s.data.toList.drop 3) = some n → v = n) {o : T3} (ho : rdo s.data.toList = some o) : o = ⟨if s[0] = 119 then 2 else 1, (s[1].toNat : Int) - 48, v⟩ := by
  rw [rdo_four (four_of s h4)] at ho
  by_cases hc : (s[0] = 114 ∨ s[0] = 119) ∧ s[2] = 61
  · rw [if_pos hc] at ho
    obtain ⟨b, c, hb, hc2, rfl, _⟩ := rd3_some ho
    have e1 := hv c hc2
    have hb2 := digs_of hb
    have hb3 := (digs_all hb).2 0
    have hlt := digs_lt hb
    have hb4 : (s[1].toNat : Int) - 48 = b := by
      have h9 : digs [s[1]] = if 48 ≤ s[1].toNat ∧ s[1].toNat ≤ 57 then some (s[1].toNat - 48) else none := rfl
      rw [h9] at hb
      by_cases hd : 48 ≤ s[1].toNat ∧ s[1].toNat ≤ 57
      · rw [if_pos hd] at hb
        have := Option.some.inj hb
        omega
      · rw [if_neg hd] at hb
        cases hb
    rw [e1, hb4]
  · rw [if_neg hc] at ho
    cases ho
set_option maxHeartbeats 4000000 in
theorem implReadOp_c (s : ByteArray) (hs : s.size ≤ 1048576) (w : World) (hv : ErrVars w) : Calls Tryd.prog 9 #[.string s] w (RdP s.data.toList w) := by
  unfold RdP
  by_cases h4 : s.size < 4
  · rw [rdo_short (by rw [show s.data.toList.length = s.size from Array.length_toList]; exact h4)]
    go_enter Tryd.func9, Tryd.ntmps9
    go_wp2
    obtain ⟨f0, f1, f2⟩ := box3 (Below.refl _ (w.alloc (.cells #[.int .i64 0, .int .i64 0, .int .i64 0] 23)))
    exact bodyPost_ret (v := .tuple #[.agg #[.int .i64 0, .int .i64 0, .int .i64 0], .bool false]) (by simp [results, Tryd.results9, go_sem, f0, f1, f2]) rfl ⟨rfl, by (repeat' (first | (with_reducible exact Below.refl _ _) | (with_reducible refine Below.mono (by assumption) ?_) | (with_reducible refine Below.trans ?_ (Below.mono (by assumption) ?_)) | (with_reducible refine Below.alloc ?_ ?_ _) | (with_reducible refine Below.drew ?_) | (with_reducible refine below_drewN ?_ _) | (with_reducible refine Below.setCell ?_ ?_ _) | (simp only [World.size_alloc, World.size_setCell, World.size_drew, size_drewN]; omega) | omega))⟩
  · have h4 : 4 ≤ s.size := by omega
    have i3 : (3 : Int) ≤ (s.size : Int) := by omega
    have j3 : 3 ≤ s.size := by omega
    have i4 : decide ((s.size : Int) < 4) = false := decide_eq_false (by omega)
    have CA : Hid (∀ w, ErrVars w → Calls Tryd.prog 30 #[.string (s.extract 3 s.size)] w fun e w' => ∃ (v : Int) (ev : Value), e = .returned (.tuple #[.int .i64 v, ev]) ∧ (∀ n, digs (s.data.toList.drop 3) = some n → v = n) ∧ Ext w w') := Lib.hid (fun w hv => by
      have := atoi_c (s.extract 3 s.size) (by rw [ByteArray.size_extract]; omega) w hv
      rw [Lib.extract_to_end] at this
      exact this)
    have hcomp := fun v hv o => rdo_comp s h4 (v := v) hv (o := o)
    have hiff := fun o => rdo_iff s o h4
    generalize rdo s.data.toList = RD at hcomp hiff ⊢
    have HC := Lib.hid hcomp
    have HI := Lib.hid hiff
    clear hcomp hiff
    have hk0 := s[1].toNat_lt
    have hw1 : wrap64 (s[1].toNat : Int) = (s[1].toNat : Int) := by unfold wrap64; omega
    have hw2 : wrap64 ((s[1].toNat : Int) - 48) = (s[1].toNat : Int) - 48 := by unfold wrap64; omega
    obtain ⟨K1, hK1⟩ : ∃ K1, (s[1].toNat : Int) - 48 = K1 := ⟨_, rfl⟩
    rw [hK1] at HC hw2
    by_cases h1 : s[0] = 119
    · have b1 : ((s[0].toNat : Int) == 119) = true := by rw [h1]; rfl
      rw [if_pos h1] at HC
      go_enter Tryd.func9, Tryd.ntmps9
      go_wp2_with (fail)
      go_at_call 30
      refine (CA.out _ (hv.ext (by (repeat' (first | (with_reducible exact Below.refl _ _) | (with_reducible refine Below.mono (by assumption) ?_) | (with_reducible refine Below.trans ?_ (Below.mono (by assumption) ?_)) | (with_reducible refine Below.alloc ?_ ?_ _) | (with_reducible refine Below.drew ?_) | (with_reducible refine below_drewN ?_ _) | (with_reducible refine Below.setCell ?_ ?_ _) | (simp only [World.size_alloc, World.size_setCell, World.size_drew, size_drewN]; omega) | omega))))).mono ?_
      rintro e w4 ⟨v, ev, rfl, hvd, hb⟩
      have hB := (Blk.new (w.alloc (.cells #[.int .i64 0, .int .i64 0, .int .i64 0] 23)) 23 #[.int .i64 2, .int .i64 K1, .int .i64 0]).ext hb
      rw [World.size_alloc] at hB
      have hR := (Blk.new w 23 #[.int .i64 0, .int .i64 0, .int .i64 0]).ext (w' := w4) (Ext.tr (by (repeat' (first | (with_reducible exact Below.refl _ _) | (with_reducible refine Below.mono (by assumption) ?_) | (with_reducible refine Below.trans ?_ (Below.mono (by assumption) ?_)) | (with_reducible refine Below.alloc ?_ ?_ _) | (with_reducible refine Below.drew ?_) | (with_reducible refine below_drewN ?_ _) | (with_reducible refine Below.setCell ?_ ?_ _) | (simp only [World.size_alloc, World.size_setCell, World.size_drew, size_drewN]; omega) | omega))) hb)
      have fz := hB.frozen
      obtain ⟨z0, z1, z2⟩ := (⟨hB.cell 0, hB.cell 1, hB.cell 2⟩ : _ ∧ _ ∧ _)
      simp only [List.getElem?_toArray, List.getElem?_cons_zero, List.getElem?_cons_succ] at z0 z1 z2
      have hgl := hB.lt
      have hE4 : Ext w w4 := Ext.tr (by (repeat' (first | (with_reducible exact Below.refl _ _) | (with_reducible refine Below.mono (by assumption) ?_) | (with_reducible refine Below.trans ?_ (Below.mono (by assumption) ?_)) | (with_reducible refine Below.alloc ?_ ?_ _) | (with_reducible refine Below.drew ?_) | (with_reducible refine below_drewN ?_ _) | (with_reducible refine Below.setCell ?_ ?_ _) | (simp only [World.size_alloc, World.size_setCell, World.size_drew, size_drewN]; omega) | omega))) hb
      have hcv := HC.out v hvd
      have hio := HI.out ⟨2, K1, v⟩
      have CO : Hid (∀ w, Calls Tryd.prog 12 #[.agg #[.int .i64 2, .int .i64 K1, .int .i64 v]] w fun e w' => e = .returned (.string (optx ⟨2, K1, v⟩)) ∧ Ext w w') := Lib.hid (opText_c ⟨2, K1, v⟩)
      generalize optx ⟨2, K1, v⟩ = OX at CO hio
      have HCV := Lib.hid hcv
      have HIO := Lib.hid hio
      clear hcv hio hvd
      go_wp2_with (fail)
      go_at_call 12
      refine (CO.out _).mono ?_
      rintro e w6 ⟨rfl, hb6⟩
      have hEs : Ext w (World.setCell w4 ⟨w.heap.size + 1, 2, none⟩ (.int .i64 v)) := by (repeat' (first | (with_reducible exact Below.refl _ _) | (with_reducible refine Below.mono (by assumption) ?_) | (with_reducible refine Below.trans ?_ (Below.mono (by assumption) ?_)) | (with_reducible refine Below.alloc ?_ ?_ _) | (with_reducible refine Below.drew ?_) | (with_reducible refine below_drewN ?_ _) | (with_reducible refine Below.setCell ?_ ?_ _) | (simp only [World.size_alloc, World.size_setCell, World.size_drew, size_drewN]; omega) | omega))
      have e6 := hEs.tr hb6
      have hB6' := (hB.set_ 2 (.int .i64 v)).ext hb6
      have hB6 : Blk w6 (w.heap.size + 1) 23 #[.int .i64 2, .int .i64 K1, .int .i64 v] := by simpa using hB6'
      have hR6 : Blk w6 w.heap.size 23 #[.int .i64 0, .int .i64 0, .int .i64 0] := by
        have hlt : w.heap.size < w4.heap.size := by omega
        refine Blk.ext ?_ hb6
        exact (grown_set (a := w4) (g := w.heap.size + 1) (o := 2) (.int .i64 v)).block w.heap.size hlt (fun e => by have := Option.some.inj e; omega) |>.trans hR
      have hl6 := hR6.lt
      have hgl6 := hB6.lt
      clear fz z0 z1 z2
      have fz := hB6.frozen
      have fr := hR6.frozen
      obtain ⟨z0, z1, z2⟩ := (⟨hB6.cell 0, hB6.cell 1, hB6.cell 2⟩ : _ ∧ _ ∧ _)
      obtain ⟨r0, r1, r2⟩ := (⟨hR6.cell 0, hR6.cell 1, hR6.cell 2⟩ : _ ∧ _ ∧ _)
      simp only [List.getElem?_toArray, List.getElem?_cons_zero, List.getElem?_cons_succ] at z0 z1 z2 r0 r1 r2
      by_cases hD : OX = s
      · have hrd := HIO.out.1 hD
        subst hrd
        have hd2 : (OX.toList == s.toList) = true := (Lib.bytes_beq_iff _ _).2 hD
        clear hD
        go_wp2
        have hF := ((hR6.set_ 0 (.int .i64 2)).set_ 1 (.int .i64 K1)).set_ 2 (.int .i64 v)
        obtain ⟨f0, f1, f2⟩ := (⟨hF.cell 0, hF.cell 1, hF.cell 2⟩ : _ ∧ _ ∧ _)
        simp at f0 f1 f2
        exact bodyPost_ret (v := .tuple #[.agg #[.int .i64 2, .int .i64 K1, .int .i64 v], .bool true]) (by simp [results, Tryd.results9, go_sem, f0, f1, f2]) rfl ⟨rfl, by (repeat' (first | (with_reducible exact Below.refl _ _) | (with_reducible refine Below.mono (by assumption) ?_) | (with_reducible refine Below.trans ?_ (Below.mono (by assumption) ?_)) | (with_reducible refine Below.alloc ?_ ?_ _) | (with_reducible refine Below.drew ?_) | (with_reducible refine below_drewN ?_ _) | (with_reducible refine Below.setCell ?_ ?_ _) | (simp only [World.size_alloc, World.size_setCell, World.size_drew, size_drewN]; omega) | omega))⟩
      · have hrd : RD = none := by
          cases hq : RD with
          | none => rfl
          | some o =>
            have h8 := HCV.out o hq
            rw [h8] at hq
            exact absurd (HIO.out.2 hq) hD
        subst hrd
        have hd2 : (OX.toList == s.toList) = false := (Lib.bytes_beq_false_iff _ _).2 hD
        clear hD
        go_wp2
        have hF := ((hR6.set_ 0 (.int .i64 0)).set_ 1 (.int .i64 0)).set_ 2 (.int .i64 0)
        obtain ⟨f0, f1, f2⟩ := (⟨hF.cell 0, hF.cell 1, hF.cell 2⟩ : _ ∧ _ ∧ _)
        simp at f0 f1 f2
        exact bodyPost_ret (v := .tuple #[.agg #[.int .i64 0, .int .i64 0, .int .i64 0], .bool false]) (by simp [results, Tryd.results9, go_sem, f0, f1, f2]) rfl ⟨rfl, by (repeat' (first | (with_reducible exact Below.refl _ _) | (with_reducible refine Below.mono (by assumption) ?_) | (with_reducible refine Below.trans ?_ (Below.mono (by assumption) ?_)) | (with_reducible refine Below.alloc ?_ ?_ _) | (with_reducible refine Below.drew ?_) | (with_reducible refine below_drewN ?_ _) | (with_reducible refine Below.setCell ?_ ?_ _) | (simp only [World.size_alloc, World.size_setCell, World.size_drew, size_drewN]; omega) | omega))⟩
    · have n1 : s[0].toNat ≠ 119 := fun h => h1 (u8_eq h)
      have b1 : ((s[0].toNat : Int) == 119) = false := by simp; omega
      rw [if_neg h1] at HC
      go_enter Tryd.func9, Tryd.ntmps9
      go_wp2_with (fail)
      go_at_call 30
      refine (CA.out _ (hv.ext (by (repeat' (first | (with_reducible exact Below.refl _ _) | (with_reducible refine Below.mono (by assumption) ?_) | (with_reducible refine Below.trans ?_ (Below.mono (by assumption) ?_)) | (with_reducible refine Below.alloc ?_ ?_ _) | (with_reducible refine Below.drew ?_) | (with_reducible refine below_drewN ?_ _) | (with_reducible refine Below.setCell ?_ ?_ _) | (simp only [World.size_alloc, World.size_setCell, World.size_drew, size_drewN]; omega) | omega))))).mono ?_
      rintro e w4 ⟨v, ev, rfl, hvd, hb⟩
      have hB := (Blk.new (w.alloc (.cells #[.int .i64 0, .int .i64 0, .int .i64 0] 23)) 23 #[.int .i64 1, .int .i64 K1, .int .i64 0]).ext hb
      rw [World.size_alloc] at hB
      have hR := (Blk.new w 23 #[.int .i64 0, .int .i64 0, .int .i64 0]).ext (w' := w4) (Ext.tr (by (repeat' (first | (with_reducible exact Below.refl _ _) | (with_reducible refine Below.mono (by assumption) ?_) | (with_reducible refine Below.trans ?_ (Below.mono (by assumption) ?_)) | (with_reducible refine Below.alloc ?_ ?_ _) | (with_reducible refine Below.drew ?_) | (with_reducible refine below_drewN ?_ _) | (with_reducible refine Below.setCell ?_ ?_ _) | (simp only [World.size_alloc, World.size_setCell, World.size_drew, size_drewN]; omega) | omega))) hb)
      have fz := hB.frozen
      obtain ⟨z0, z1, z2⟩ := (⟨hB.cell 0, hB.cell 1, hB.cell 2⟩ : _ ∧ _ ∧ _)
      simp only [List.getElem?_toArray, List.getElem?_cons_zero, List.getElem?_cons_succ] at z0 z1 z2
      have hgl := hB.lt
      have hE4 : Ext w w4 := Ext.tr (by (repeat' (first | (with_reducible exact Below.refl _ _) | (with_reducible refine Below.mono (by assumption) ?_) | (with_reducible refine Below.trans ?_ (Below.mono (by assumption) ?_)) | (with_reducible refine Below.alloc ?_ ?_ _) | (with_reducible refine Below.drew ?_) | (with_reducible refine below_drewN ?_ _) | (with_reducible refine Below.setCell ?_ ?_ _) | (simp only [World.size_alloc, World.size_setCell, World.size_drew, size_drewN]; omega) | omega))) hb
      have hcv := HC.out v hvd
      have hio := HI.out ⟨1, K1, v⟩
      have CO : Hid (∀ w, Calls Tryd.prog 12 #[.agg #[.int .i64 1, .int .i64 K1, .int .i64 v]] w fun e w' => e = .returned (.string (optx ⟨1, K1, v⟩)) ∧ Ext w w') := Lib.hid (opText_c ⟨1, K1, v⟩)
      generalize optx ⟨1, K1, v⟩ = OX at CO hio
      have HCV := Lib.hid hcv
      have HIO := Lib.hid hio
      clear hcv hio hvd
      go_wp2_with (fail)
      go_at_call 12
      refine (CO.out _).mono ?_
      rintro e w6 ⟨rfl, hb6⟩
      have hEs : Ext w (World.setCell w4 ⟨w.heap.size + 1, 2, none⟩ (.int .i64 v)) := by (repeat' (first | (with_reducible exact Below.refl _ _) | (with_reducible refine Below.mono (by assumption) ?_) | (with_reducible refine Below.trans ?_ (Below.mono (by assumption) ?_)) | (with_reducible refine Below.alloc ?_ ?_ _) | (with_reducible refine Below.drew ?_) | (with_reducible refine below_drewN ?_ _) | (with_reducible refine Below.setCell ?_ ?_ _) | (simp only [World.size_alloc, World.size_setCell, World.size_drew, size_drewN]; omega) | omega))
      have e6 := hEs.tr hb6
      have hB6' := (hB.set_ 2 (.int .i64 v)).ext hb6
      have hB6 : Blk w6 (w.heap.size + 1) 23 #[.int .i64 1, .int .i64 K1, .int .i64 v] := by simpa using hB6'
      have hR6 : Blk w6 w.heap.size 23 #[.int .i64 0, .int .i64 0, .int .i64 0] := by
        have hlt : w.heap.size < w4.heap.size := by omega
        refine Blk.ext ?_ hb6
        exact (grown_set (a := w4) (g := w.heap.size + 1) (o := 2) (.int .i64 v)).block w.heap.size hlt (fun e => by have := Option.some.inj e; omega) |>.trans hR
      have hl6 := hR6.lt
      have hgl6 := hB6.lt
      clear fz z0 z1 z2
      have fz := hB6.frozen
      have fr := hR6.frozen
      obtain ⟨z0, z1, z2⟩ := (⟨hB6.cell 0, hB6.cell 1, hB6.cell 2⟩ : _ ∧ _ ∧ _)
      obtain ⟨r0, r1, r2⟩ := (⟨hR6.cell 0, hR6.cell 1, hR6.cell 2⟩ : _ ∧ _ ∧ _)
      simp only [List.getElem?_toArray, List.getElem?_cons_zero, List.getElem?_cons_succ] at z0 z1 z2 r0 r1 r2
      by_cases hD : OX = s
      · have hrd := HIO.out.1 hD
        subst hrd
        have hd2 : (OX.toList == s.toList) = true := (Lib.bytes_beq_iff _ _).2 hD
        clear hD
        go_wp2
        have hF := ((hR6.set_ 0 (.int .i64 1)).set_ 1 (.int .i64 K1)).set_ 2 (.int .i64 v)
        obtain ⟨f0, f1, f2⟩ := (⟨hF.cell 0, hF.cell 1, hF.cell 2⟩ : _ ∧ _ ∧ _)
        simp at f0 f1 f2
        exact bodyPost_ret (v := .tuple #[.agg #[.int .i64 1, .int .i64 K1, .int .i64 v], .bool true]) (by simp [results, Tryd.results9, go_sem, f0, f1, f2]) rfl ⟨rfl, by (repeat' (first | (with_reducible exact Below.refl _ _) | (with_reducible refine Below.mono (by assumption) ?_) | (with_reducible refine Below.trans ?_ (Below.mono (by assumption) ?_)) | (with_reducible refine Below.alloc ?_ ?_ _) | (with_reducible refine Below.drew ?_) | (with_reducible refine below_drewN ?_ _) | (with_reducible refine Below.setCell ?_ ?_ _) | (simp only [World.size_alloc, World.size_setCell, World.size_drew, size_drewN]; omega) | omega))⟩
      · have hrd : RD = none := by
          cases hq : RD with
          | none => rfl
          | some o =>
            have h8 := HCV.out o hq
            rw [h8] at hq
            exact absurd (HIO.out.2 hq) hD
        subst hrd
        have hd2 : (OX.toList == s.toList) = false := (Lib.bytes_beq_false_iff _ _).2 hD
        clear hD
        go_wp2
        have hF := ((hR6.set_ 0 (.int .i64 0)).set_ 1 (.int .i64 0)).set_ 2 (.int .i64 0)
        obtain ⟨f0, f1, f2⟩ := (⟨hF.cell 0, hF.cell 1, hF.cell 2⟩ : _ ∧ _ ∧ _)
        simp at f0 f1 f2
        exact bodyPost_ret (v := .tuple #[.agg #[.int .i64 0, .int .i64 0, .int .i64 0], .bool false]) (by simp [results, Tryd.results9, go_sem, f0, f1, f2]) rfl ⟨rfl, by (repeat' (first | (with_reducible exact Below.refl _ _) | (with_reducible refine Below.mono (by assumption) ?_) | (with_reducible refine Below.trans ?_ (Below.mono (by assumption) ?_)) | (with_reducible refine Below.alloc ?_ ?_ _) | (with_reducible refine Below.drew ?_) | (with_reducible refine below_drewN ?_ _) | (with_reducible refine Below.setCell ?_ ?_ _) | (simp only [World.size_alloc, World.size_setCell, World.size_drew, size_drewN]; omega) | omega))⟩
end Go.Proofs.YtdidlffbobgejaaDoor
