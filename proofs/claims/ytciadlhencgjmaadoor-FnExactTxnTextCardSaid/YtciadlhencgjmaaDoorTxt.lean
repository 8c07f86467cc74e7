/-
  Contracts of the texts of transactions and histories, the reference's and the program's.
-/
import Derived.Test.YtciadlhencgjmaaDoorTxtD
import Derived.Test.YtciadlhencgjmaaDoorWr
import Derived.Shelf.Strings.OnBuilder
namespace Go.Proofs.YtciadlhencgjmaaDoor
set_option linter.unusedSimpArgs false
set_option linter.unusedVariables false
set_option maxRecDepth 100000
open Go.RowKit Go.Shelf

def Tryd.lays156_ren : Go.Shelf.Ren := ⟨fun | 156 => 40 | 165 => 68 | 166 => 69 | 169 => 70 | 240 => 82 | 241 => 83 | 276 => 90 | 277 => 91 | n => n, fun | 31 => 65 | 9 => 9 | 3 => 3 | 4 => 4 | 0 => 0 | 20 => 20 | 72 => 87 | 76 => 91 | 70 => 85 | 37 => 46 | 75 => 90 | 127 => 108 | 164 => 116 | 5 => 5 | 80 => 61 | n => n, fun | n => n⟩
theorem Tryd.lays156 : Go.Proofs.Lays.n156 Tryd.prog Tryd.lays156_ren := {
  mixed := by kernel_rfl
  f156 := Tryd.func40.trans (congrArg some (by kernel_rfl))
  f165 := Tryd.func68.trans (congrArg some (by kernel_rfl))
  f166 := Tryd.func69.trans (congrArg some (by kernel_rfl))
  f169 := Tryd.func70.trans (congrArg some (by kernel_rfl))
  f240 := Tryd.func82.trans (congrArg some (by kernel_rfl))
  f241 := Tryd.func83.trans (congrArg some (by kernel_rfl))
  f276 := Tryd.func90.trans (congrArg some (by kernel_rfl))
  f277 := Tryd.func91.trans (congrArg some (by kernel_rfl))
  t0 := Tryd.underlying0
  a0 := Tryd.isAgg0
  z0 := Tryd.sizeOf0
  v0 := Tryd.zeroValue0
  t3 := Tryd.underlying3
  a3 := Tryd.isAgg3
  z3 := Tryd.sizeOf3
  v3 := Tryd.zeroValue3
  t4 := Tryd.underlying4
  a4 := Tryd.isAgg4
  z4 := Tryd.sizeOf4
  v4 := Tryd.zeroValue4
  t9 := Tryd.underlying9
  a9 := Tryd.isAgg9
  z9 := Tryd.sizeOf9
  v9 := Tryd.zeroValue9
  t20 := Tryd.underlying20
  a20 := Tryd.isAgg20
  z20 := Tryd.sizeOf20
  v20 := Tryd.zeroValue20
  t31 := Tryd.underlying65
  a31 := Tryd.isAgg65
  z31 := Tryd.sizeOf65
  v31 := Tryd.zeroValue65
  t37 := Tryd.underlying46
  a37 := Tryd.isAgg46
  z37 := Tryd.sizeOf46
  v37 := Tryd.zeroValue46
  t70 := Tryd.underlying85
  a70 := Tryd.isAgg85
  z70 := Tryd.sizeOf85
  v70 := Tryd.zeroValue85
  t72 := Tryd.underlying87
  a72 := Tryd.isAgg87
  z72 := Tryd.sizeOf87
  v72 := Tryd.zeroValue87
  t75 := Tryd.underlying90
  a75 := Tryd.isAgg90
  z75 := Tryd.sizeOf90
  v75 := Tryd.zeroValue90
  t76 := Tryd.underlying91
  a76 := Tryd.isAgg91
  z76 := Tryd.sizeOf91
  v76 := Tryd.zeroValue91
  t127 := Tryd.underlying108
  a127 := Tryd.isAgg108
  z127 := Tryd.sizeOf108
  v127 := Tryd.zeroValue108
  t164 := Tryd.underlying116
  a164 := Tryd.isAgg116
  z164 := Tryd.sizeOf116
  v164 := Tryd.zeroValue116 }
theorem bx156 : Builder.Extra Tryd.prog Tryd.lays156_ren where
  sizeBuilder := by kernel_rfl
  liesBuilder := by kernel_rfl
  t5 := by kernel_rfl
  a5 := fun w => by kernel_rfl
  z5 := fun w => by kernel_rfl
  v5 := fun w => by kernel_rfl
  infoByte := by kernel_rfl
  cellsByte := by kernel_rfl
  sizeByte := by kernel_rfl
  neB5 := by decide
theorem join_c {base : Nat} {e : TypeId} {v : Value} {w : World} (xs : List ByteArray) (sep : ByteArray) (h : OwnS w base e v xs) (hn : xs.length ≤ 1048576) (hl : (Lib.join (xs.map bl) (bl sep)).length ≤ 1048576) :
    Calls Tryd.prog 40 #[v, .string sep] w fun e w' => e = .returned (.string ⟨(Lib.join (xs.map bl) (bl sep)).toArray⟩) ∧ Ext w w' := by
  rcases h.cells with ⟨rfl, rfl⟩ | ⟨g, c, rfl, _, hg, hc, hcells⟩
  · exact (Any.strings_Join_none Tryd.lays156 bx156 none 0 sep w).mono fun e w' ⟨he, hw⟩ => ⟨he, hw ▸ Below.refl _ _⟩
  · exact Any.strings_Join Tryd.lays156 bx156 g 0 c xs sep w (fun j x hx => by rw [Nat.zero_add]; exact hcells j x hx) hg (by omega) hc (by have : (fun x : ByteArray => x.data.toList) = bl := rfl; rw [this]; exact Nat.le_trans hl (by omega))

set_option maxHeartbeats 4000000 in
theorem specTxnText_ok (n : Nat) (ops : List T3) (d : Bool) (S : Nat → Prop) (A : Option Addr) (c : Nat) (w : World) (hx : Ops S w A ops) (hn : ops.length ≤ 6) (hs : n < 4) (hv : txnv ⟨n, ops, d⟩ = true) :
    Calls Tryd.prog 12 #[.agg #[.int .i64 n, .slice A ops.length c, .bool d]] w fun e w' => e = .returned (.string (txL ⟨n, ops, d⟩ ops.length)) ∧ Ext w w' := by
  have C := fun w hx => specTxnValid_c ⟨n, ops, d⟩ S A c w hx (by simp only; omega)
  rw [hv] at C
  have C := Lib.hid C
  have CN : Hid (∀ w, Calls Tryd.prog 32 #[.int .i64 n] w fun e w' => e = .returned (.string ⟨(Lib.decDigits n).toArray⟩) ∧ Ext w w') := Lib.hid (l1Number_c n (by omega))
  have g2 : ByteArray.size ⟨(Lib.decDigits n).toArray⟩ ≤ 2 := dec_size (by omega)
  have h0 : txL ⟨n, ops, d⟩ 0 = ⟨#[115]⟩ ++ ⟨(Lib.decDigits n).toArray⟩ ++ (if d then ⟨#[32, 111, 107]⟩ else ⟨#[32, 111, 102, 102]⟩) := rfl
  have HZ := Lib.hid (txL_size ⟨n, ops, d⟩ (by simp only; omega))
  have HS := Lib.hid (fun k o (h : ops[k]? = some o) => txL_succ (t := ⟨n, ops, d⟩) h)
  generalize (⟨(Lib.decDigits n).toArray⟩ : ByteArray) = D1 at CN g2 h0
  have H0 := Lib.hid h0
  generalize txL ⟨n, ops, d⟩ = TX at H0 HZ HS ⊢
  clear h0 hv
  have hL : ByteArray.size ⟨#[115]⟩ = 1 := rfl
  have hL2 : ByteArray.size ⟨#[32, 111, 107]⟩ = 3 := rfl
  have hL3 : ByteArray.size ⟨#[32, 111, 102, 102]⟩ = 4 := rfl
  have hL4 : ByteArray.size ⟨#[32]⟩ = 1 := rfl
  have e1 : (9223372036854775807 < 1 + D1.size) = False := eq_false (by omega)
  have i1 : (1 + D1.size > 9223372036854775807) = False := eq_false (by omega)
  have e2 : (9223372036854775807 < 1 + D1.size + 3) = False := eq_false (by omega)
  have i2 : (1 + D1.size + 3 > 9223372036854775807) = False := eq_false (by omega)
  have e3 : (9223372036854775807 < 1 + D1.size + 4) = False := eq_false (by omega)
  have i3 : (1 + D1.size + 4 > 9223372036854775807) = False := eq_false (by omega)
  go_enter Tryd.func12, Tryd.ntmps12
  go_wp2_with (fail)
  go_at_call 37
  refine (C.out _ (hx.ext (by (repeat' (first | (with_reducible exact Below.refl _ _) | (with_reducible refine Below.mono (by assumption) ?_) | (with_reducible refine Below.trans ?_ (Below.mono (by assumption) ?_)) | (with_reducible refine Below.alloc ?_ ?_ _) | (with_reducible refine Below.drew ?_) | (with_reducible refine below_drewN ?_ _) | (with_reducible refine Below.setCell ?_ ?_ _) | (simp only [World.size_alloc, World.size_setCell, World.size_drew, size_drewN]; omega) | omega))))).mono ?_
  rintro e w1 ⟨rfl, hb⟩
  obtain ⟨hc, hf, hz, hs⟩ := bcell hb
  (try simp only [World.size_alloc, World.size_setCell, World.size_drew, size_drewN] at hs); (first | have l0 := Nat.lt_of_lt_of_le l0 (show _ ≤ w1.heap.size by omega) | have l0 : w.heap.size < w1.heap.size := (by omega) | skip); (try have l0e := Nat.le_of_lt l0); (try have l0f := Nat.le_add_right_of_le (k := 1) l0e); (try have l1 := Nat.lt_of_lt_of_le l1 (show _ ≤ w1.heap.size by omega)); (try have l1e := Nat.le_of_lt l1); (try have l1f := Nat.le_add_right_of_le (k := 1) l1e); (try have l2 := Nat.lt_of_lt_of_le l2 (show _ ≤ w1.heap.size by omega)); (try have l2e := Nat.le_of_lt l2); (try have l2f := Nat.le_add_right_of_le (k := 1) l2e); (try have l3 := Nat.lt_of_lt_of_le l3 (show _ ≤ w1.heap.size by omega)); (try have l3e := Nat.le_of_lt l3); (try have l3f := Nat.le_add_right_of_le (k := 1) l3e)
  have e1x : Ext w w1 := by (repeat' (first | (with_reducible exact Below.refl _ _) | (with_reducible refine Below.mono (by assumption) ?_) | (with_reducible refine Below.trans ?_ (Below.mono (by assumption) ?_)) | (with_reducible refine Below.alloc ?_ ?_ _) | (with_reducible refine Below.drew ?_) | (with_reducible refine below_drewN ?_ _) | (with_reducible refine Below.setCell ?_ ?_ _) | (simp only [World.size_alloc, World.size_setCell, World.size_drew, size_drewN]; omega) | omega))
  have l0w : w.heap.size < w1.heap.size := by have := (show Ext (w.alloc (.cells #[.int .i64 n, .slice A ops.length c, .bool d] 35)) w1 by (repeat' (first | (with_reducible exact Below.refl _ _) | (with_reducible refine Below.mono (by assumption) ?_) | (with_reducible refine Below.trans ?_ (Below.mono (by assumption) ?_)) | (with_reducible refine Below.alloc ?_ ?_ _) | (with_reducible refine Below.drew ?_) | (with_reducible refine below_drewN ?_ _) | (with_reducible refine Below.setCell ?_ ?_ _) | (simp only [World.size_alloc, World.size_setCell, World.size_drew, size_drewN]; omega) | omega))).size; simp only [World.size_alloc] at this; omega
  obtain ⟨q0, q1, q2⟩ := box3 (show Ext (w.alloc (.cells #[.int .i64 n, .slice A ops.length c, .bool d] 35)) w1 by (repeat' (first | (with_reducible exact Below.refl _ _) | (with_reducible refine Below.mono (by assumption) ?_) | (with_reducible refine Below.trans ?_ (Below.mono (by assumption) ?_)) | (with_reducible refine Below.alloc ?_ ?_ _) | (with_reducible refine Below.drew ?_) | (with_reducible refine below_drewN ?_ _) | (with_reducible refine Below.setCell ?_ ?_ _) | (simp only [World.size_alloc, World.size_setCell, World.size_drew, size_drewN]; omega) | omega)))
  clear hc hf hz
  go_wp2_with (fail)
  go_at_call 32
  refine (CN.out _).mono ?_
  rintro e w2 ⟨rfl, hb⟩
  obtain ⟨hc, hf, hz, hs⟩ := bcell hb
  (try simp only [World.size_alloc, World.size_setCell, World.size_drew, size_drewN] at hs); (first | have l0 := Nat.lt_of_lt_of_le l0 (show _ ≤ w2.heap.size by omega) | have l0 : w.heap.size < w2.heap.size := (by omega) | skip); (try have l0e := Nat.le_of_lt l0); (try have l0f := Nat.le_add_right_of_le (k := 1) l0e); (try have l1 := Nat.lt_of_lt_of_le l1 (show _ ≤ w2.heap.size by omega)); (try have l1e := Nat.le_of_lt l1); (try have l1f := Nat.le_add_right_of_le (k := 1) l1e); (try have l2 := Nat.lt_of_lt_of_le l2 (show _ ≤ w2.heap.size by omega)); (try have l2e := Nat.le_of_lt l2); (try have l2f := Nat.le_add_right_of_le (k := 1) l2e); (try have l3 := Nat.lt_of_lt_of_le l3 (show _ ≤ w2.heap.size by omega)); (try have l3e := Nat.le_of_lt l3); (try have l3f := Nat.le_add_right_of_le (k := 1) l3e)
  have e2x := e1x.tr hb
  have l0x := Nat.lt_of_lt_of_le l0w hb.size
  have q0 := hb.keep l0w q0
  have q1 := hb.keep l0w q1
  have q2 := hb.keep l0w q2
  clear hc hf hz hb
  have HL : ∀ (W : World), Ext w2 W → Hid (Ext w W ∧ w.heap.size < W.heap.size ∧ W.cell? ⟨w.heap.size, 1, none⟩ = some (.slice A ops.length c)) := fun W h => Lib.hid ⟨e2x.tr h, Nat.lt_of_lt_of_le l0x h.size, h.keep l0x q1⟩
  cases d with
  | false =>
    go_wp2
    go_loopw [3, 4] (fun v i wr => ∃ k : Nat, k ≤ ops.length ∧ i = .int .i64 k ∧ v = .string (TX k) ∧ Ext w2 wr) (fun _ i _ => ops.length - (intOf i).toNat)
    case atStart => exact ⟨0, Nat.zero_le _, rfl, by rw [H0.out]; rfl, by (repeat' (first | (with_reducible exact Below.refl _ _) | (with_reducible refine Below.mono (by assumption) ?_) | (with_reducible refine Below.trans ?_ (Below.mono (by assumption) ?_)) | (with_reducible refine Below.alloc ?_ ?_ _) | (with_reducible refine Below.drew ?_) | (with_reducible refine below_drewN ?_ _) | (with_reducible refine Below.setCell ?_ ?_ _) | (simp only [World.size_alloc, World.size_setCell, World.size_drew, size_drewN]; omega) | omega))⟩
    case round =>
      obtain ⟨k, hk, rfl, rfl, hE⟩ := hrel
      obtain ⟨hE0, lr, q1⟩ := (HL _ (hE)).out
      have hz := HZ.out k
      by_cases hlt : k < ops.length
      · obtain ⟨x0, x1, x2, b, off, hxk, rfl, _, hb0, c0, c1, c2⟩ := (hx.ext hE0).at_ hlt
        have ht := HS.out k _ hxk
        have ho := optx_size ⟨x0, x1, x2⟩
        have CO : Hid (∀ w, Calls Tryd.prog 8 #[.agg #[.int .i64 x0, .int .i64 x1, .int .i64 x2]] w fun e w' => e = .returned (.string (optx ⟨x0, x1, x2⟩)) ∧ Ext w w') := Lib.hid (specText_c ⟨x0, x1, x2⟩)
        generalize optx ⟨x0, x1, x2⟩ = OX at CO ho ht
        generalize hT : TX k = T at hz ht
        have HT := Lib.hid ht
        clear hxk ht hT
        have e4 : (9223372036854775807 < T.size + 1) = False := eq_false (by omega)
        have i4 : (T.size + 1 > 9223372036854775807) = False := eq_false (by omega)
        have e5 : (9223372036854775807 < T.size + 1 + OX.size) = False := eq_false (by omega)
        have i5 : (T.size + 1 + OX.size > 9223372036854775807) = False := eq_false (by omega)
        go_wp2_with (fail)
        go_at_call 8
        refine (CO.out _).mono ?_
        rintro e w4 ⟨rfl, hb⟩
        obtain ⟨hc, hf, hz, hs⟩ := bcell hb
        (try simp only [World.size_alloc, World.size_setCell, World.size_drew, size_drewN] at hs); (first | have l0 := Nat.lt_of_lt_of_le l0 (show _ ≤ w4.heap.size by omega) | have l0 : w.heap.size < w4.heap.size := (by omega) | skip); (try have l0e := Nat.le_of_lt l0); (try have l0f := Nat.le_add_right_of_le (k := 1) l0e); (try have l1 := Nat.lt_of_lt_of_le l1 (show _ ≤ w4.heap.size by omega)); (try have l1e := Nat.le_of_lt l1); (try have l1f := Nat.le_add_right_of_le (k := 1) l1e); (try have l2 := Nat.lt_of_lt_of_le l2 (show _ ≤ w4.heap.size by omega)); (try have l2e := Nat.le_of_lt l2); (try have l2f := Nat.le_add_right_of_le (k := 1) l2e); (try have l3 := Nat.lt_of_lt_of_le l3 (show _ ≤ w4.heap.size by omega)); (try have l3e := Nat.le_of_lt l3); (try have l3f := Nat.le_add_right_of_le (k := 1) l3e)
        have e4x := hE.tr (show Ext wr w4 by (repeat' (first | (with_reducible exact Below.refl _ _) | (with_reducible refine Below.mono (by assumption) ?_) | (with_reducible refine Below.trans ?_ (Below.mono (by assumption) ?_)) | (with_reducible refine Below.alloc ?_ ?_ _) | (with_reducible refine Below.drew ?_) | (with_reducible refine below_drewN ?_ _) | (with_reducible refine Below.setCell ?_ ?_ _) | (simp only [World.size_alloc, World.size_setCell, World.size_drew, size_drewN]; omega) | omega)))
        clear hc hf hz
        go_wp2
        exact ⟨⟨k + 1, by omega, by go_num, by rw [HT.out], e4x⟩, by simp [intOf]; omega⟩
      · obtain rfl : k = ops.length := by omega
        go_wp2
        go_ret
        exact ⟨rfl, hE0⟩
  | true =>
    go_wp2_with (fail)
    go_at_call 32
    refine (CN.out _).mono ?_
    rintro e w3 ⟨rfl, hb⟩
    obtain ⟨hc, hf, hz, hs⟩ := bcell hb
    (try simp only [World.size_alloc, World.size_setCell, World.size_drew, size_drewN] at hs); (first | have l0 := Nat.lt_of_lt_of_le l0 (show _ ≤ w3.heap.size by omega) | have l0 : w.heap.size < w3.heap.size := (by omega) | skip); (try have l0e := Nat.le_of_lt l0); (try have l0f := Nat.le_add_right_of_le (k := 1) l0e); (try have l1 := Nat.lt_of_lt_of_le l1 (show _ ≤ w3.heap.size by omega)); (try have l1e := Nat.le_of_lt l1); (try have l1f := Nat.le_add_right_of_le (k := 1) l1e); (try have l2 := Nat.lt_of_lt_of_le l2 (show _ ≤ w3.heap.size by omega)); (try have l2e := Nat.le_of_lt l2); (try have l2f := Nat.le_add_right_of_le (k := 1) l2e); (try have l3 := Nat.lt_of_lt_of_le l3 (show _ ≤ w3.heap.size by omega)); (try have l3e := Nat.le_of_lt l3); (try have l3f := Nat.le_add_right_of_le (k := 1) l3e)
    have e3x : Ext w2 w3 := by (repeat' (first | (with_reducible exact Below.refl _ _) | (with_reducible refine Below.mono (by assumption) ?_) | (with_reducible refine Below.trans ?_ (Below.mono (by assumption) ?_)) | (with_reducible refine Below.alloc ?_ ?_ _) | (with_reducible refine Below.drew ?_) | (with_reducible refine below_drewN ?_ _) | (with_reducible refine Below.setCell ?_ ?_ _) | (simp only [World.size_alloc, World.size_setCell, World.size_drew, size_drewN]; omega) | omega))
    clear hc hf hz
    go_wp2
    go_loopw [3, 4] (fun v i wr => ∃ k : Nat, k ≤ ops.length ∧ i = .int .i64 k ∧ v = .string (TX k) ∧ Ext w3 wr) (fun _ i _ => ops.length - (intOf i).toNat)
    case atStart => exact ⟨0, Nat.zero_le _, rfl, by rw [H0.out]; rfl, by (repeat' (first | (with_reducible exact Below.refl _ _) | (with_reducible refine Below.mono (by assumption) ?_) | (with_reducible refine Below.trans ?_ (Below.mono (by assumption) ?_)) | (with_reducible refine Below.alloc ?_ ?_ _) | (with_reducible refine Below.drew ?_) | (with_reducible refine below_drewN ?_ _) | (with_reducible refine Below.setCell ?_ ?_ _) | (simp only [World.size_alloc, World.size_setCell, World.size_drew, size_drewN]; omega) | omega))⟩
    case round =>
      obtain ⟨k, hk, rfl, rfl, hE⟩ := hrel
      obtain ⟨hE0, lr, q1⟩ := (HL _ (e3x.tr hE)).out
      have hz := HZ.out k
      by_cases hlt : k < ops.length
      · obtain ⟨x0, x1, x2, b, off, hxk, rfl, _, hb0, c0, c1, c2⟩ := (hx.ext hE0).at_ hlt
        have ht := HS.out k _ hxk
        have ho := optx_size ⟨x0, x1, x2⟩
        have CO : Hid (∀ w, Calls Tryd.prog 8 #[.agg #[.int .i64 x0, .int .i64 x1, .int .i64 x2]] w fun e w' => e = .returned (.string (optx ⟨x0, x1, x2⟩)) ∧ Ext w w') := Lib.hid (specText_c ⟨x0, x1, x2⟩)
        generalize optx ⟨x0, x1, x2⟩ = OX at CO ho ht
        generalize hT : TX k = T at hz ht
        have HT := Lib.hid ht
        clear hxk ht hT
        have e4 : (9223372036854775807 < T.size + 1) = False := eq_false (by omega)
        have i4 : (T.size + 1 > 9223372036854775807) = False := eq_false (by omega)
        have e5 : (9223372036854775807 < T.size + 1 + OX.size) = False := eq_false (by omega)
        have i5 : (T.size + 1 + OX.size > 9223372036854775807) = False := eq_false (by omega)
        go_wp2_with (fail)
        go_at_call 8
        refine (CO.out _).mono ?_
        rintro e w4 ⟨rfl, hb⟩
        obtain ⟨hc, hf, hz, hs⟩ := bcell hb
        (try simp only [World.size_alloc, World.size_setCell, World.size_drew, size_drewN] at hs); (first | have l0 := Nat.lt_of_lt_of_le l0 (show _ ≤ w4.heap.size by omega) | have l0 : w.heap.size < w4.heap.size := (by omega) | skip); (try have l0e := Nat.le_of_lt l0); (try have l0f := Nat.le_add_right_of_le (k := 1) l0e); (try have l1 := Nat.lt_of_lt_of_le l1 (show _ ≤ w4.heap.size by omega)); (try have l1e := Nat.le_of_lt l1); (try have l1f := Nat.le_add_right_of_le (k := 1) l1e); (try have l2 := Nat.lt_of_lt_of_le l2 (show _ ≤ w4.heap.size by omega)); (try have l2e := Nat.le_of_lt l2); (try have l2f := Nat.le_add_right_of_le (k := 1) l2e); (try have l3 := Nat.lt_of_lt_of_le l3 (show _ ≤ w4.heap.size by omega)); (try have l3e := Nat.le_of_lt l3); (try have l3f := Nat.le_add_right_of_le (k := 1) l3e)
        have e4x := hE.tr (show Ext wr w4 by (repeat' (first | (with_reducible exact Below.refl _ _) | (with_reducible refine Below.mono (by assumption) ?_) | (with_reducible refine Below.trans ?_ (Below.mono (by assumption) ?_)) | (with_reducible refine Below.alloc ?_ ?_ _) | (with_reducible refine Below.drew ?_) | (with_reducible refine below_drewN ?_ _) | (with_reducible refine Below.setCell ?_ ?_ _) | (simp only [World.size_alloc, World.size_setCell, World.size_drew, size_drewN]; omega) | omega)))
        clear hc hf hz
        go_wp2
        exact ⟨⟨k + 1, by omega, by go_num, by rw [HT.out], e4x⟩, by simp [intOf]; omega⟩
      · obtain rfl : k = ops.length := by omega
        go_wp2
        go_ret
        exact ⟨rfl, hE0⟩

set_option maxHeartbeats 4000000 in
theorem implTxnText_ok (n : Nat) (ops : List T3) (d : Bool) (S : Nat → Prop) (A : Option Addr) (c : Nat) (w : World) (hx : Ops S w A ops) (hn : ops.length ≤ 6) (hs : n < 4) (hv : txnv ⟨n, ops, d⟩ = true) :
    Calls Tryd.prog 14 #[.agg #[.int .i64 n, .slice A ops.length c, .bool d]] w fun e w' => e = .returned (.string (txtx ⟨n, ops, d⟩)) ∧ Ext w w' := by
  have C := fun w hx => implTxnValid_c ⟨n, ops, d⟩ S A c w hx (by simp only; omega)
  rw [hv] at C
  have C := Lib.hid C
  have CN : Hid (∀ w, Calls Tryd.prog 35 #[.int .i64 n] w fun e w' => e = .returned (.string ⟨(Lib.decDigits n).toArray⟩) ∧ Ext w w') := Lib.hid (itoa_c n (by omega))
  have g2 : ByteArray.size ⟨(Lib.decDigits n).toArray⟩ ≤ 2 := dec_size (by omega)
  have hw : wdT ⟨n, ops, d⟩ = [⟨#[115]⟩ ++ ⟨(Lib.decDigits n).toArray⟩, if d then ⟨#[111, 107]⟩ else ⟨#[111, 102, 102]⟩] ++ ops.map optx := rfl
  have hj := txtx_join hv
  have hjs := txtx_size ⟨n, ops, d⟩
  rw [hw] at hj
  generalize txtx ⟨n, ops, d⟩ = TX at hj hjs ⊢
  generalize (⟨(Lib.decDigits n).toArray⟩ : ByteArray) = D1 at CN g2 hj
  have hjl : (Lib.join (([⟨#[115]⟩ ++ D1, if d then ⟨#[111, 107]⟩ else ⟨#[111, 102, 102]⟩] ++ ops.map optx).map bl) [32]).length ≤ 1048576 := by
    have := congrArg ByteArray.size hj
    have h2 : ByteArray.size ⟨(Lib.join (([⟨#[115]⟩ ++ D1, if d then ⟨#[111, 107]⟩ else ⟨#[111, 102, 102]⟩] ++ ops.map optx).map bl) [32]).toArray⟩ = (Lib.join (([⟨#[115]⟩ ++ D1, if d then ⟨#[111, 107]⟩ else ⟨#[111, 102, 102]⟩] ++ ops.map optx).map bl) [32]).length := by
      simp [ByteArray.size]
    omega
  have HJ := Lib.hid hj
  have HJL := Lib.hid hjl
  clear hj hjl hw hv
  have hL : ByteArray.size ⟨#[115]⟩ = 1 := rfl
  have e1 : (9223372036854775807 < 1 + D1.size) = False := eq_false (by omega)
  have i1 : (1 + D1.size > 9223372036854775807) = False := eq_false (by omega)
  go_enter Tryd.func14, Tryd.ntmps14
  go_wp2_with (fail)
  go_at_call 39
  refine (C.out _ (hx.ext (by (repeat' (first | (with_reducible exact Below.refl _ _) | (with_reducible refine Below.mono (by assumption) ?_) | (with_reducible refine Below.trans ?_ (Below.mono (by assumption) ?_)) | (with_reducible refine Below.alloc ?_ ?_ _) | (with_reducible refine Below.drew ?_) | (with_reducible refine below_drewN ?_ _) | (with_reducible refine Below.setCell ?_ ?_ _) | (simp only [World.size_alloc, World.size_setCell, World.size_drew, size_drewN]; omega) | omega))))).mono ?_
  rintro e w1 ⟨rfl, hb⟩
  obtain ⟨hc, hf, hz, hs⟩ := bcell hb
  (try simp only [World.size_alloc, World.size_setCell, World.size_drew, size_drewN] at hs); (first | have l0 := Nat.lt_of_lt_of_le l0 (show _ ≤ w1.heap.size by omega) | have l0 : w.heap.size < w1.heap.size := (by omega) | skip); (try have l0e := Nat.le_of_lt l0); (try have l0f := Nat.le_add_right_of_le (k := 1) l0e); (try have l1 := Nat.lt_of_lt_of_le l1 (show _ ≤ w1.heap.size by omega)); (try have l1e := Nat.le_of_lt l1); (try have l1f := Nat.le_add_right_of_le (k := 1) l1e); (try have l2 := Nat.lt_of_lt_of_le l2 (show _ ≤ w1.heap.size by omega)); (try have l2e := Nat.le_of_lt l2); (try have l2f := Nat.le_add_right_of_le (k := 1) l2e); (try have l3 := Nat.lt_of_lt_of_le l3 (show _ ≤ w1.heap.size by omega)); (try have l3e := Nat.le_of_lt l3); (try have l3f := Nat.le_add_right_of_le (k := 1) l3e)
  have e1x : Ext w w1 := by (repeat' (first | (with_reducible exact Below.refl _ _) | (with_reducible refine Below.mono (by assumption) ?_) | (with_reducible refine Below.trans ?_ (Below.mono (by assumption) ?_)) | (with_reducible refine Below.alloc ?_ ?_ _) | (with_reducible refine Below.drew ?_) | (with_reducible refine below_drewN ?_ _) | (with_reducible refine Below.setCell ?_ ?_ _) | (simp only [World.size_alloc, World.size_setCell, World.size_drew, size_drewN]; omega) | omega))
  have l0w : w.heap.size < w1.heap.size := by have := (show Ext (w.alloc (.cells #[.int .i64 n, .slice A ops.length c, .bool d] 35)) w1 by (repeat' (first | (with_reducible exact Below.refl _ _) | (with_reducible refine Below.mono (by assumption) ?_) | (with_reducible refine Below.trans ?_ (Below.mono (by assumption) ?_)) | (with_reducible refine Below.alloc ?_ ?_ _) | (with_reducible refine Below.drew ?_) | (with_reducible refine below_drewN ?_ _) | (with_reducible refine Below.setCell ?_ ?_ _) | (simp only [World.size_alloc, World.size_setCell, World.size_drew, size_drewN]; omega) | omega))).size; simp only [World.size_alloc] at this; omega
  obtain ⟨q0, q1, q2⟩ := box3 (show Ext (w.alloc (.cells #[.int .i64 n, .slice A ops.length c, .bool d] 35)) w1 by (repeat' (first | (with_reducible exact Below.refl _ _) | (with_reducible refine Below.mono (by assumption) ?_) | (with_reducible refine Below.trans ?_ (Below.mono (by assumption) ?_)) | (with_reducible refine Below.alloc ?_ ?_ _) | (with_reducible refine Below.drew ?_) | (with_reducible refine below_drewN ?_ _) | (with_reducible refine Below.setCell ?_ ?_ _) | (simp only [World.size_alloc, World.size_setCell, World.size_drew, size_drewN]; omega) | omega)))
  clear hc hf hz
  go_wp2_with (fail)
  go_at_call 35
  refine (CN.out _).mono ?_
  rintro e w2 ⟨rfl, hb⟩
  obtain ⟨hc, hf, hz, hs⟩ := bcell hb
  (try simp only [World.size_alloc, World.size_setCell, World.size_drew, size_drewN] at hs); (first | have l0 := Nat.lt_of_lt_of_le l0 (show _ ≤ w2.heap.size by omega) | have l0 : w.heap.size < w2.heap.size := (by omega) | skip); (try have l0e := Nat.le_of_lt l0); (try have l0f := Nat.le_add_right_of_le (k := 1) l0e); (try have l1 := Nat.lt_of_lt_of_le l1 (show _ ≤ w2.heap.size by omega)); (try have l1e := Nat.le_of_lt l1); (try have l1f := Nat.le_add_right_of_le (k := 1) l1e); (try have l2 := Nat.lt_of_lt_of_le l2 (show _ ≤ w2.heap.size by omega)); (try have l2e := Nat.le_of_lt l2); (try have l2f := Nat.le_add_right_of_le (k := 1) l2e); (try have l3 := Nat.lt_of_lt_of_le l3 (show _ ≤ w2.heap.size by omega)); (try have l3e := Nat.le_of_lt l3); (try have l3f := Nat.le_add_right_of_le (k := 1) l3e)
  have e2x := e1x.tr hb
  have l0x := Nat.lt_of_lt_of_le l0w hb.size
  have q0 := hb.keep l0w q0
  have q1 := hb.keep l0w q1
  have q2 := hb.keep l0w q2
  clear hc hf hz hb
  generalize hX : (⟨#[115]⟩ : ByteArray) ++ D1 = X0 at HJ HJL
  have HX := Lib.hid hX
  clear hX
  cases d with
  | false =>
    obtain ⟨WD, hWD⟩ : ∃ WD : Nat → List ByteArray, ∀ k, WD k = [X0, (⟨#[111, 102, 102]⟩ : ByteArray)] ++ (ops.take k).map optx := ⟨_, fun _ => rfl⟩
    have hWL : ∀ k, (WD k).length ≤ 2 + k := fun k => by rw [hWD]; simp; omega
    have hJ : (⟨(Lib.join ((WD ops.length).map bl) (bl ⟨#[32]⟩)).toArray⟩ : ByteArray) = TX := by rw [hWD, List.take_length]; exact HJ.out
    have hJL : (Lib.join ((WD ops.length).map bl) (bl ⟨#[32]⟩)).length ≤ 1048576 := by rw [hWD, List.take_length]; exact HJL.out
    have hO : OwnS (w2.alloc (.cells #[.string X0, .string (⟨#[111, 102, 102]⟩ : ByteArray)] 9)) w2.heap.size 9 (.slice (some ⟨w2.heap.size, 0, none⟩) 2 2) (WD 0) := by
      rw [hWD]
      exact OwnS.lit w2 [X0, (⟨#[111, 102, 102]⟩ : ByteArray)] (Nat.le_refl _) (by simp)
    have HWD := Lib.hid hWD
    have HJ2 := Lib.hid hJ
    have HJL2 := Lib.hid hJL
    clear hWD hJ hJL
    go_wp2
    rw [HX.out]
    go_loopw [3, 21] (fun v i wr => ∃ k : Nat, k ≤ ops.length ∧ i = .int .i64 k ∧ OwnS wr w2.heap.size 9 v (WD k) ∧ Ext w2 wr) (fun _ i _ => ops.length - (intOf i).toNat)
    case atStart => exact ⟨0, Nat.zero_le _, rfl, hO, by (repeat' (first | (with_reducible exact Below.refl _ _) | (with_reducible refine Below.mono (by assumption) ?_) | (with_reducible refine Below.trans ?_ (Below.mono (by assumption) ?_)) | (with_reducible refine Below.alloc ?_ ?_ _) | (with_reducible refine Below.drew ?_) | (with_reducible refine below_drewN ?_ _) | (with_reducible refine Below.setCell ?_ ?_ _) | (simp only [World.size_alloc, World.size_setCell, World.size_drew, size_drewN]; omega) | omega))⟩
    case round =>
      obtain ⟨k, hk, rfl, hown, hE⟩ := hrel
      have hE0 := e2x.tr hE
      have hzE := hE.size
      clear hO
      by_cases hlt : k < ops.length
      · obtain ⟨x0, x1, x2, b, off, hxk, rfl, _, hb0, c0, c1, c2⟩ := (hx.ext hE0).at_ hlt
        have CO : Hid (∀ w, Calls Tryd.prog 10 #[.agg #[.int .i64 x0, .int .i64 x1, .int .i64 x2]] w fun e w' => e = .returned (.string (optx ⟨x0, x1, x2⟩)) ∧ Ext w w') := Lib.hid (opText_c ⟨x0, x1, x2⟩)
        have hap : WD (k + 1) = WD k ++ [optx ⟨x0, x1, x2⟩] := by
          rw [HWD.out, HWD.out, List.take_add_one, hxk]
          simp only [Option.toList, List.map_append, List.map_cons, List.map_nil, List.append_assoc]
        have HA := Lib.hid hap
        generalize optx ⟨x0, x1, x2⟩ = OX at CO HA
        clear hxk hap
        go_wp2_with (first
          | (go_at_call 10; refine (CO.out _).mono ?_; rintro e w4 ⟨rfl, hb⟩; have e4 : Ext wr w4 := (by (repeat' (first | (with_reducible exact Below.refl _ _) | (with_reducible refine Below.mono (by assumption) ?_) | (with_reducible refine Below.trans ?_ (Below.mono (by assumption) ?_)) | (with_reducible refine Below.alloc ?_ ?_ _) | (with_reducible refine Below.drew ?_) | (with_reducible refine below_drewN ?_ _) | (with_reducible refine Below.setCell ?_ ?_ _) | (simp only [World.size_alloc, World.size_setCell, World.size_drew, size_drewN]; omega) | omega))); have z4 := e4.size)
          | (at_builtin; refine wpList_appendS _ rfl _ _ 65 rfl w2.heap.size 9 Tryd.underlying65 infoS rfl _ (WD k) rfl (hown.ext (e4.tr (by (repeat' (first | (with_reducible exact Below.refl _ _) | (with_reducible refine Below.mono (by assumption) ?_) | (with_reducible refine Below.trans ?_ (Below.mono (by assumption) ?_)) | (with_reducible refine Below.alloc ?_ ?_ _) | (with_reducible refine Below.drew ?_) | (with_reducible refine below_drewN ?_ _) | (with_reducible refine Below.setCell ?_ ?_ _) | (simp only [World.size_alloc, World.size_setCell, World.size_drew, size_drewN]; omega) | omega))))) _ OX rfl ?_ ?_ ?_ ?_))
        · simp
        · have := hWL k; omega
        · simp only [World.size_alloc]; omega
        · intro v' w' hown' hgrow
          rw [← HA.out] at hown'
          have hEb : Ext w4 (w4.alloc (.cells #[.string OX] 9)) := by (repeat' (first | (with_reducible exact Below.refl _ _) | (with_reducible refine Below.mono (by assumption) ?_) | (with_reducible refine Below.trans ?_ (Below.mono (by assumption) ?_)) | (with_reducible refine Below.alloc ?_ ?_ _) | (with_reducible refine Below.drew ?_) | (with_reducible refine below_drewN ?_ _) | (with_reducible refine Below.setCell ?_ ?_ _) | (simp only [World.size_alloc, World.size_setCell, World.size_drew, size_drewN]; omega) | omega))
          have hE5 : Ext w2 w' := Below.grown ((hE.tr e4).tr hEb) hgrow ((hE.tr e4).tr hEb).size (fun g hg => ownS_block hown g hg)
          clear hown hgrow
          go_wp2
          go_roundw
          case measure => simp [intOf]; omega
          case rel => exact ⟨k + 1, by omega, by go_num, hown', hE5⟩
      · obtain rfl : k = ops.length := by omega
        have CJ := Lib.hid (join_c _ ⟨#[32]⟩ hown (by have := hWL ops.length; omega) HJL2.out)
        clear hown
        go_wp2_with (fail)
        go_at_call 40
        refine CJ.out.mono ?_
        rintro e w9 ⟨rfl, hb⟩
        go_wp2
        go_ret
        exact ⟨congrArg (fun s => Ending.returned (.string s)) HJ2.out, hE0.tr hb⟩
  | true =>
    obtain ⟨WD, hWD⟩ : ∃ WD : Nat → List ByteArray, ∀ k, WD k = [X0, (⟨#[111, 107]⟩ : ByteArray)] ++ (ops.take k).map optx := ⟨_, fun _ => rfl⟩
    have hWL : ∀ k, (WD k).length ≤ 2 + k := fun k => by rw [hWD]; simp; omega
    have hJ : (⟨(Lib.join ((WD ops.length).map bl) (bl ⟨#[32]⟩)).toArray⟩ : ByteArray) = TX := by rw [hWD, List.take_length]; exact HJ.out
    have hJL : (Lib.join ((WD ops.length).map bl) (bl ⟨#[32]⟩)).length ≤ 1048576 := by rw [hWD, List.take_length]; exact HJL.out
    have hO : OwnS (w2.alloc (.cells #[.string X0, .string (⟨#[111, 107]⟩ : ByteArray)] 9)) w2.heap.size 9 (.slice (some ⟨w2.heap.size, 0, none⟩) 2 2) (WD 0) := by
      rw [hWD]
      exact OwnS.lit w2 [X0, (⟨#[111, 107]⟩ : ByteArray)] (Nat.le_refl _) (by simp)
    have HWD := Lib.hid hWD
    have HJ2 := Lib.hid hJ
    have HJL2 := Lib.hid hJL
    clear hWD hJ hJL
    go_wp2
    rw [HX.out]
    go_loopw [3, 21] (fun v i wr => ∃ k : Nat, k ≤ ops.length ∧ i = .int .i64 k ∧ OwnS wr w2.heap.size 9 v (WD k) ∧ Ext w2 wr) (fun _ i _ => ops.length - (intOf i).toNat)
    case atStart => exact ⟨0, Nat.zero_le _, rfl, hO, by (repeat' (first | (with_reducible exact Below.refl _ _) | (with_reducible refine Below.mono (by assumption) ?_) | (with_reducible refine Below.trans ?_ (Below.mono (by assumption) ?_)) | (with_reducible refine Below.alloc ?_ ?_ _) | (with_reducible refine Below.drew ?_) | (with_reducible refine below_drewN ?_ _) | (with_reducible refine Below.setCell ?_ ?_ _) | (simp only [World.size_alloc, World.size_setCell, World.size_drew, size_drewN]; omega) | omega))⟩
    case round =>
      obtain ⟨k, hk, rfl, hown, hE⟩ := hrel
      have hE0 := e2x.tr hE
      have hzE := hE.size
      clear hO
      by_cases hlt : k < ops.length
      · obtain ⟨x0, x1, x2, b, off, hxk, rfl, _, hb0, c0, c1, c2⟩ := (hx.ext hE0).at_ hlt
        have CO : Hid (∀ w, Calls Tryd.prog 10 #[.agg #[.int .i64 x0, .int .i64 x1, .int .i64 x2]] w fun e w' => e = .returned (.string (optx ⟨x0, x1, x2⟩)) ∧ Ext w w') := Lib.hid (opText_c ⟨x0, x1, x2⟩)
        have hap : WD (k + 1) = WD k ++ [optx ⟨x0, x1, x2⟩] := by
          rw [HWD.out, HWD.out, List.take_add_one, hxk]
          simp only [Option.toList, List.map_append, List.map_cons, List.map_nil, List.append_assoc]
        have HA := Lib.hid hap
        generalize optx ⟨x0, x1, x2⟩ = OX at CO HA
        clear hxk hap
        go_wp2_with (first
          | (go_at_call 10; refine (CO.out _).mono ?_; rintro e w4 ⟨rfl, hb⟩; have e4 : Ext wr w4 := (by (repeat' (first | (with_reducible exact Below.refl _ _) | (with_reducible refine Below.mono (by assumption) ?_) | (with_reducible refine Below.trans ?_ (Below.mono (by assumption) ?_)) | (with_reducible refine Below.alloc ?_ ?_ _) | (with_reducible refine Below.drew ?_) | (with_reducible refine below_drewN ?_ _) | (with_reducible refine Below.setCell ?_ ?_ _) | (simp only [World.size_alloc, World.size_setCell, World.size_drew, size_drewN]; omega) | omega))); have z4 := e4.size)
          | (at_builtin; refine wpList_appendS _ rfl _ _ 65 rfl w2.heap.size 9 Tryd.underlying65 infoS rfl _ (WD k) rfl (hown.ext (e4.tr (by (repeat' (first | (with_reducible exact Below.refl _ _) | (with_reducible refine Below.mono (by assumption) ?_) | (with_reducible refine Below.trans ?_ (Below.mono (by assumption) ?_)) | (with_reducible refine Below.alloc ?_ ?_ _) | (with_reducible refine Below.drew ?_) | (with_reducible refine below_drewN ?_ _) | (with_reducible refine Below.setCell ?_ ?_ _) | (simp only [World.size_alloc, World.size_setCell, World.size_drew, size_drewN]; omega) | omega))))) _ OX rfl ?_ ?_ ?_ ?_))
        · simp
        · have := hWL k; omega
        · simp only [World.size_alloc]; omega
        · intro v' w' hown' hgrow
          rw [← HA.out] at hown'
          have hEb : Ext w4 (w4.alloc (.cells #[.string OX] 9)) := by (repeat' (first | (with_reducible exact Below.refl _ _) | (with_reducible refine Below.mono (by assumption) ?_) | (with_reducible refine Below.trans ?_ (Below.mono (by assumption) ?_)) | (with_reducible refine Below.alloc ?_ ?_ _) | (with_reducible refine Below.drew ?_) | (with_reducible refine below_drewN ?_ _) | (with_reducible refine Below.setCell ?_ ?_ _) | (simp only [World.size_alloc, World.size_setCell, World.size_drew, size_drewN]; omega) | omega))
          have hE5 : Ext w2 w' := Below.grown ((hE.tr e4).tr hEb) hgrow ((hE.tr e4).tr hEb).size (fun g hg => ownS_block hown g hg)
          clear hown hgrow
          go_wp2
          go_roundw
          case measure => simp [intOf]; omega
          case rel => exact ⟨k + 1, by omega, by go_num, hown', hE5⟩
      · obtain rfl : k = ops.length := by omega
        have CJ := Lib.hid (join_c _ ⟨#[32]⟩ hown (by have := hWL ops.length; omega) HJL2.out)
        clear hown
        go_wp2_with (fail)
        go_at_call 40
        refine CJ.out.mono ?_
        rintro e w9 ⟨rfl, hb⟩
        go_wp2
        go_ret
        exact ⟨congrArg (fun s => Ending.returned (.string s)) HJ2.out, hE0.tr hb⟩

theorem specTxnText_c (t : TxnT) (S : Nat → Prop) (A : Option Addr) (c : Nat) (w : World) (hx : Ops S w A t.ops) (hn : t.ops.length ≤ 1048576) :
    Calls Tryd.prog 12 #[.agg #[.int .i64 t.sess, .slice A t.ops.length c, .bool t.done]] w fun e w' => e = .returned (.string (txtx t)) ∧ Ext w w' := by
  cases hv : txnv t with
  | true =>
    obtain ⟨s, ops, d⟩ := t
    obtain ⟨h1, h2, h3⟩ := txnv_sess hv
    simp only at h1 h2 h3
    obtain ⟨n, rfl⟩ := Int.eq_ofNat_of_zero_le h1
    have h4 : txtx ⟨n, ops, d⟩ = txL ⟨n, ops, d⟩ ops.length := by unfold txtx; rw [hv]; rfl
    rw [h4]
    exact specTxnText_ok n ops d S A c w hx h3 (by omega) hv
  | false =>
    have C := fun w hx => specTxnValid_c t S A c w hx hn
    rw [hv] at C
    have C := Lib.hid C
    have ht : txtx t = ⟨#[]⟩ := by unfold txtx; rw [hv]; rfl
    have HT := Lib.hid ht
    generalize txtx t = TX at HT ⊢
    obtain ⟨s, ops, d⟩ := t
    clear ht hv
    go_enter Tryd.func12, Tryd.ntmps12
    go_wp2_with (fail)
    go_at_call 37
    refine (C.out _ (hx.ext (by (repeat' (first | (with_reducible exact Below.refl _ _) | (with_reducible refine Below.mono (by assumption) ?_) | (with_reducible refine Below.trans ?_ (Below.mono (by assumption) ?_)) | (with_reducible refine Below.alloc ?_ ?_ _) | (with_reducible refine Below.drew ?_) | (with_reducible refine below_drewN ?_ _) | (with_reducible refine Below.setCell ?_ ?_ _) | (simp only [World.size_alloc, World.size_setCell, World.size_drew, size_drewN]; omega) | omega))))).mono ?_
    rintro e w1 ⟨rfl, hb⟩
    obtain ⟨hc, hf, hz, hs⟩ := bcell hb
    (try simp only [World.size_alloc, World.size_setCell, World.size_drew, size_drewN] at hs); (first | have l0 := Nat.lt_of_lt_of_le l0 (show _ ≤ w1.heap.size by omega) | have l0 : w.heap.size < w1.heap.size := (by omega) | skip); (try have l0e := Nat.le_of_lt l0); (try have l0f := Nat.le_add_right_of_le (k := 1) l0e); (try have l1 := Nat.lt_of_lt_of_le l1 (show _ ≤ w1.heap.size by omega)); (try have l1e := Nat.le_of_lt l1); (try have l1f := Nat.le_add_right_of_le (k := 1) l1e); (try have l2 := Nat.lt_of_lt_of_le l2 (show _ ≤ w1.heap.size by omega)); (try have l2e := Nat.le_of_lt l2); (try have l2f := Nat.le_add_right_of_le (k := 1) l2e); (try have l3 := Nat.lt_of_lt_of_le l3 (show _ ≤ w1.heap.size by omega)); (try have l3e := Nat.le_of_lt l3); (try have l3f := Nat.le_add_right_of_le (k := 1) l3e)
    go_wp2
    go_ret
    exact ⟨by rw [HT.out]; rfl, by (repeat' (first | (with_reducible exact Below.refl _ _) | (with_reducible refine Below.mono (by assumption) ?_) | (with_reducible refine Below.trans ?_ (Below.mono (by assumption) ?_)) | (with_reducible refine Below.alloc ?_ ?_ _) | (with_reducible refine Below.drew ?_) | (with_reducible refine below_drewN ?_ _) | (with_reducible refine Below.setCell ?_ ?_ _) | (simp only [World.size_alloc, World.size_setCell, World.size_drew, size_drewN]; omega) | omega))⟩

theorem implTxnText_c (t : TxnT) (S : Nat → Prop) (A : Option Addr) (c : Nat) (w : World) (hx : Ops S w A t.ops) (hn : t.ops.length ≤ 1048576) :
    Calls Tryd.prog 14 #[.agg #[.int .i64 t.sess, .slice A t.ops.length c, .bool t.done]] w fun e w' => e = .returned (.string (txtx t)) ∧ Ext w w' := by
  cases hv : txnv t with
  | true =>
    obtain ⟨s, ops, d⟩ := t
    obtain ⟨h1, h2, h3⟩ := txnv_sess hv
    simp only at h1 h2 h3
    obtain ⟨n, rfl⟩ := Int.eq_ofNat_of_zero_le h1
    exact implTxnText_ok n ops d S A c w hx h3 (by omega) hv
  | false =>
    have C := fun w hx => implTxnValid_c t S A c w hx hn
    rw [hv] at C
    have C := Lib.hid C
    have ht : txtx t = ⟨#[]⟩ := by unfold txtx; rw [hv]; rfl
    have HT := Lib.hid ht
    generalize txtx t = TX at HT ⊢
    obtain ⟨s, ops, d⟩ := t
    clear ht hv
    go_enter Tryd.func14, Tryd.ntmps14
    go_wp2_with (fail)
    go_at_call 39
    refine (C.out _ (hx.ext (by (repeat' (first | (with_reducible exact Below.refl _ _) | (with_reducible refine Below.mono (by assumption) ?_) | (with_reducible refine Below.trans ?_ (Below.mono (by assumption) ?_)) | (with_reducible refine Below.alloc ?_ ?_ _) | (with_reducible refine Below.drew ?_) | (with_reducible refine below_drewN ?_ _) | (with_reducible refine Below.setCell ?_ ?_ _) | (simp only [World.size_alloc, World.size_setCell, World.size_drew, size_drewN]; omega) | omega))))).mono ?_
    rintro e w1 ⟨rfl, hb⟩
    obtain ⟨hc, hf, hz, hs⟩ := bcell hb
    (try simp only [World.size_alloc, World.size_setCell, World.size_drew, size_drewN] at hs); (first | have l0 := Nat.lt_of_lt_of_le l0 (show _ ≤ w1.heap.size by omega) | have l0 : w.heap.size < w1.heap.size := (by omega) | skip); (try have l0e := Nat.le_of_lt l0); (try have l0f := Nat.le_add_right_of_le (k := 1) l0e); (try have l1 := Nat.lt_of_lt_of_le l1 (show _ ≤ w1.heap.size by omega)); (try have l1e := Nat.le_of_lt l1); (try have l1f := Nat.le_add_right_of_le (k := 1) l1e); (try have l2 := Nat.lt_of_lt_of_le l2 (show _ ≤ w1.heap.size by omega)); (try have l2e := Nat.le_of_lt l2); (try have l2f := Nat.le_add_right_of_le (k := 1) l2e); (try have l3 := Nat.lt_of_lt_of_le l3 (show _ ≤ w1.heap.size by omega)); (try have l3e := Nat.le_of_lt l3); (try have l3f := Nat.le_add_right_of_le (k := 1) l3e)
    go_wp2
    go_ret
    exact ⟨by rw [HT.out]; rfl, by (repeat' (first | (with_reducible exact Below.refl _ _) | (with_reducible refine Below.mono (by assumption) ?_) | (with_reducible refine Below.trans ?_ (Below.mono (by assumption) ?_)) | (with_reducible refine Below.alloc ?_ ?_ _) | (with_reducible refine Below.drew ?_) | (with_reducible refine below_drewN ?_ _) | (with_reducible refine Below.setCell ?_ ?_ _) | (simp only [World.size_alloc, World.size_setCell, World.size_drew, size_drewN]; omega) | omega))⟩

set_option maxHeartbeats 4000000 in
theorem specHistoryText_c (h : List TxnT) (S : Nat → Prop) (A : Option Addr) (c : Nat) (w : World) (hx : Txns S w A h) (hsm : Small h) :
    Calls Tryd.prog 17 #[.slice A h.length c] w fun e w' => e = .returned (.string (thtx h)) ∧ Ext w w' := by
  have C := fun w hx => specHistoryValid_c h S A c w hx hsm
  have hn := hsm.len
  cases hv : histv h with
  | false =>
    rw [hv] at C
    have C := Lib.hid C
    have ht : thtx h = ⟨#[]⟩ := by unfold thtx; rw [hv]; rfl
    have HT := Lib.hid ht
    generalize thtx h = TX at HT ⊢
    clear ht hv
    go_enter Tryd.func17, Tryd.ntmps17
    go_wp2
    go_loopw [3, 4] (fun v i wr => i = .int .i64 0 ∧ v = .string ⟨#[]⟩ ∧ Ext w wr) (fun _ _ _ => 0)
    case atStart => exact ⟨rfl, rfl, by (repeat' (first | (with_reducible exact Below.refl _ _) | (with_reducible refine Below.mono (by assumption) ?_) | (with_reducible refine Below.trans ?_ (Below.mono (by assumption) ?_)) | (with_reducible refine Below.alloc ?_ ?_ _) | (with_reducible refine Below.drew ?_) | (with_reducible refine below_drewN ?_ _) | (with_reducible refine Below.setCell ?_ ?_ _) | (simp only [World.size_alloc, World.size_setCell, World.size_drew, size_drewN]; omega) | omega))⟩
    case round =>
      obtain ⟨rfl, rfl, hE⟩ := hrel
      by_cases hlt : 0 < h.length
      · skip
        go_wp2_with (fail)
        go_at_call 42
        refine (C.out _ (hx.ext hE)).mono ?_
        rintro e w1 ⟨rfl, hb⟩
        obtain ⟨hc, hf, hz, hs⟩ := bcell hb
        (try simp only [World.size_alloc, World.size_setCell, World.size_drew, size_drewN] at hs); (first | have l0 := Nat.lt_of_lt_of_le l0 (show _ ≤ w1.heap.size by omega) | have l0 : w.heap.size < w1.heap.size := (by omega) | skip); (try have l0e := Nat.le_of_lt l0); (try have l0f := Nat.le_add_right_of_le (k := 1) l0e); (try have l1 := Nat.lt_of_lt_of_le l1 (show _ ≤ w1.heap.size by omega)); (try have l1e := Nat.le_of_lt l1); (try have l1f := Nat.le_add_right_of_le (k := 1) l1e); (try have l2 := Nat.lt_of_lt_of_le l2 (show _ ≤ w1.heap.size by omega)); (try have l2e := Nat.le_of_lt l2); (try have l2f := Nat.le_add_right_of_le (k := 1) l2e); (try have l3 := Nat.lt_of_lt_of_le l3 (show _ ≤ w1.heap.size by omega)); (try have l3e := Nat.le_of_lt l3); (try have l3f := Nat.le_add_right_of_le (k := 1) l3e)
        go_wp2
        go_ret
        exact ⟨by rw [HT.out]; rfl, hE.tr hb⟩
      · go_wp2
        go_ret
        exact ⟨by rw [HT.out]; rfl, hE⟩
  | true =>
    rw [hv] at C
    have C := Lib.hid C
    have hl6 : h.length ≤ 6 := by
      unfold histv at hv
      simp only [Bool.and_eq_true, decide_eq_true_eq] at hv
      exact hv.2
    have ht : thtx h = thL h h.length := by unfold thtx; rw [hv]; rfl
    rw [ht]
    have HZ := Lib.hid (thL_size h)
    have HS := Lib.hid (fun k t (hk : h[k]? = some t) => thL_succ (h := h) hk)
    have H0 : thL h 0 = ⟨#[]⟩ := rfl
    generalize thL h = TX at H0 HZ HS ⊢
    clear ht hv
    have H0 := Lib.hid H0
    have hL : ByteArray.size ⟨#[59, 32]⟩ = 2 := rfl
    go_enter Tryd.func17, Tryd.ntmps17
    go_wp2
    go_loopw [3, 4] (fun v i wr => ∃ k : Nat, k ≤ h.length ∧ i = .int .i64 k ∧ v = .string (TX k) ∧ Ext w wr) (fun _ i _ => h.length - (intOf i).toNat)
    case atStart => exact ⟨0, Nat.zero_le _, rfl, by rw [H0.out], by (repeat' (first | (with_reducible exact Below.refl _ _) | (with_reducible refine Below.mono (by assumption) ?_) | (with_reducible refine Below.trans ?_ (Below.mono (by assumption) ?_)) | (with_reducible refine Below.alloc ?_ ?_ _) | (with_reducible refine Below.drew ?_) | (with_reducible refine below_drewN ?_ _) | (with_reducible refine Below.setCell ?_ ?_ _) | (simp only [World.size_alloc, World.size_setCell, World.size_drew, size_drewN]; omega) | omega))⟩
    case round =>
      obtain ⟨k, hk, rfl, rfl, hE⟩ := hrel
      have hz := HZ.out k
      by_cases hlt : k < h.length
      · skip
        go_wp2_with (fail)
        go_at_call 42
        refine (C.out _ (hx.ext hE)).mono ?_
        rintro e w1 ⟨rfl, hb⟩
        obtain ⟨hc, hf, hz, hs⟩ := bcell hb
        (try simp only [World.size_alloc, World.size_setCell, World.size_drew, size_drewN] at hs); (first | have l0 := Nat.lt_of_lt_of_le l0 (show _ ≤ w1.heap.size by omega) | have l0 : w.heap.size < w1.heap.size := (by omega) | skip); (try have l0e := Nat.le_of_lt l0); (try have l0f := Nat.le_add_right_of_le (k := 1) l0e); (try have l1 := Nat.lt_of_lt_of_le l1 (show _ ≤ w1.heap.size by omega)); (try have l1e := Nat.le_of_lt l1); (try have l1f := Nat.le_add_right_of_le (k := 1) l1e); (try have l2 := Nat.lt_of_lt_of_le l2 (show _ ≤ w1.heap.size by omega)); (try have l2e := Nat.le_of_lt l2); (try have l2f := Nat.le_add_right_of_le (k := 1) l2e); (try have l3 := Nat.lt_of_lt_of_le l3 (show _ ≤ w1.heap.size by omega)); (try have l3e := Nat.le_of_lt l3); (try have l3f := Nat.le_add_right_of_le (k := 1) l3e)
        have e1 := hE.tr hb
        clear hc hf hz hb hE
        obtain ⟨s, ops, d, A', cap, b, off, hxk, rfl, _, hb0, hOp, c0, c1, c2⟩ := hx.at_ hlt
        have hon := hsm.ops hxk
        simp only at hon
        have ht := HS.out k _ hxk
        have f0 := e1.keep hb0 c0
        have f1 := e1.keep hb0 c1
        have f2 := e1.keep hb0 c2
        have hto := txtx_size ⟨s, ops, d⟩
        have CT : Hid (∀ w, Ops S w A' ops → Calls Tryd.prog 12 #[.agg #[.int .i64 s, .slice A' ops.length cap, .bool d]] w fun e w' => e = .returned (.string (txtx ⟨s, ops, d⟩)) ∧ Ext w w') := Lib.hid (fun w hx => specTxnText_c ⟨s, ops, d⟩ S A' cap w hx hon)
        generalize txtx ⟨s, ops, d⟩ = OX at CT hto ht
        have hz := HZ.out k
        generalize hT : TX k = T at hz ht
        have HT := Lib.hid ht
        clear hxk ht hT
        have e4 : (9223372036854775807 < T.size + 2) = False := eq_false (by omega)
        have i4 : (T.size + 2 > 9223372036854775807) = False := eq_false (by omega)
        have e5 : (9223372036854775807 < T.size + 2 + OX.size) = False := eq_false (by omega)
        have i5 : (T.size + 2 + OX.size > 9223372036854775807) = False := eq_false (by omega)
        have e6 : (9223372036854775807 < T.size + OX.size) = False := eq_false (by omega)
        have i6 : (T.size + OX.size > 9223372036854775807) = False := eq_false (by omega)
        by_cases hk0 : 0 < k
        · have hT2 := HT.out
          rw [if_pos hk0] at hT2
          have HT2 := Lib.hid hT2
          clear hT2
          go_wp2_with (fail)
          go_at_call 12
          refine (CT.out _ (hOp.ext e1)).mono ?_
          rintro e w2 ⟨rfl, hb⟩
          obtain ⟨hc, hf, hz, hs⟩ := bcell hb
          (try simp only [World.size_alloc, World.size_setCell, World.size_drew, size_drewN] at hs); (first | have l0 := Nat.lt_of_lt_of_le l0 (show _ ≤ w2.heap.size by omega) | have l0 : w.heap.size < w2.heap.size := (by omega) | skip); (try have l0e := Nat.le_of_lt l0); (try have l0f := Nat.le_add_right_of_le (k := 1) l0e); (try have l1 := Nat.lt_of_lt_of_le l1 (show _ ≤ w2.heap.size by omega)); (try have l1e := Nat.le_of_lt l1); (try have l1f := Nat.le_add_right_of_le (k := 1) l1e); (try have l2 := Nat.lt_of_lt_of_le l2 (show _ ≤ w2.heap.size by omega)); (try have l2e := Nat.le_of_lt l2); (try have l2f := Nat.le_add_right_of_le (k := 1) l2e); (try have l3 := Nat.lt_of_lt_of_le l3 (show _ ≤ w2.heap.size by omega)); (try have l3e := Nat.le_of_lt l3); (try have l3f := Nat.le_add_right_of_le (k := 1) l3e)
          have e2 := e1.tr hb
          clear hc hf hb
          go_wp2
          exact ⟨⟨k + 1, by omega, by go_num, by rw [HT2.out], e2⟩, by simp [intOf]; omega⟩
        · have hT2 := HT.out
          rw [if_neg hk0] at hT2
          have HT2 := Lib.hid hT2
          clear hT2
          go_wp2_with (fail)
          go_at_call 12
          refine (CT.out _ (hOp.ext e1)).mono ?_
          rintro e w2 ⟨rfl, hb⟩
          obtain ⟨hc, hf, hz, hs⟩ := bcell hb
          (try simp only [World.size_alloc, World.size_setCell, World.size_drew, size_drewN] at hs); (first | have l0 := Nat.lt_of_lt_of_le l0 (show _ ≤ w2.heap.size by omega) | have l0 : w.heap.size < w2.heap.size := (by omega) | skip); (try have l0e := Nat.le_of_lt l0); (try have l0f := Nat.le_add_right_of_le (k := 1) l0e); (try have l1 := Nat.lt_of_lt_of_le l1 (show _ ≤ w2.heap.size by omega)); (try have l1e := Nat.le_of_lt l1); (try have l1f := Nat.le_add_right_of_le (k := 1) l1e); (try have l2 := Nat.lt_of_lt_of_le l2 (show _ ≤ w2.heap.size by omega)); (try have l2e := Nat.le_of_lt l2); (try have l2f := Nat.le_add_right_of_le (k := 1) l2e); (try have l3 := Nat.lt_of_lt_of_le l3 (show _ ≤ w2.heap.size by omega)); (try have l3e := Nat.le_of_lt l3); (try have l3f := Nat.le_add_right_of_le (k := 1) l3e)
          have e2 := e1.tr hb
          clear hc hf hb
          go_wp2
          exact ⟨⟨k + 1, by omega, by go_num, by rw [HT2.out], e2⟩, by simp [intOf]; omega⟩
      · obtain rfl : k = h.length := by omega
        go_wp2
        go_ret
        exact ⟨rfl, hE⟩

set_option maxHeartbeats 4000000 in
theorem implHistoryText_c (h : List TxnT) (S : Nat → Prop) (A : Option Addr) (c : Nat) (w : World) (hx : Txns S w A h) (hsm : Small h) :
    Calls Tryd.prog 19 #[.slice A h.length c] w fun e w' => e = .returned (.string (thtx h)) ∧ Ext w w' := by
  have C := fun w hx => implHistoryValid_c h S A c w hx hsm
  have hn := hsm.len
  cases hv : histv h with
  | false =>
    rw [hv] at C
    have C := Lib.hid C
    have ht : thtx h = ⟨#[]⟩ := by unfold thtx; rw [hv]; rfl
    have HT := Lib.hid ht
    generalize thtx h = TX at HT ⊢
    clear ht hv
    go_enter Tryd.func19, Tryd.ntmps19
    go_wp2_with (fail)
    go_at_call 30
    refine (C.out _ (hx.ext (by (repeat' (first | (with_reducible exact Below.refl _ _) | (with_reducible refine Below.mono (by assumption) ?_) | (with_reducible refine Below.trans ?_ (Below.mono (by assumption) ?_)) | (with_reducible refine Below.alloc ?_ ?_ _) | (with_reducible refine Below.drew ?_) | (with_reducible refine below_drewN ?_ _) | (with_reducible refine Below.setCell ?_ ?_ _) | (simp only [World.size_alloc, World.size_setCell, World.size_drew, size_drewN]; omega) | omega))))).mono ?_
    rintro e w1 ⟨rfl, hb⟩
    obtain ⟨hc, hf, hz, hs⟩ := bcell hb
    (try simp only [World.size_alloc, World.size_setCell, World.size_drew, size_drewN] at hs); (first | have l0 := Nat.lt_of_lt_of_le l0 (show _ ≤ w1.heap.size by omega) | have l0 : w.heap.size < w1.heap.size := (by omega) | skip); (try have l0e := Nat.le_of_lt l0); (try have l0f := Nat.le_add_right_of_le (k := 1) l0e); (try have l1 := Nat.lt_of_lt_of_le l1 (show _ ≤ w1.heap.size by omega)); (try have l1e := Nat.le_of_lt l1); (try have l1f := Nat.le_add_right_of_le (k := 1) l1e); (try have l2 := Nat.lt_of_lt_of_le l2 (show _ ≤ w1.heap.size by omega)); (try have l2e := Nat.le_of_lt l2); (try have l2f := Nat.le_add_right_of_le (k := 1) l2e); (try have l3 := Nat.lt_of_lt_of_le l3 (show _ ≤ w1.heap.size by omega)); (try have l3e := Nat.le_of_lt l3); (try have l3f := Nat.le_add_right_of_le (k := 1) l3e)
    go_wp2
    go_ret
    exact ⟨by rw [HT.out]; rfl, by (repeat' (first | (with_reducible exact Below.refl _ _) | (with_reducible refine Below.mono (by assumption) ?_) | (with_reducible refine Below.trans ?_ (Below.mono (by assumption) ?_)) | (with_reducible refine Below.alloc ?_ ?_ _) | (with_reducible refine Below.drew ?_) | (with_reducible refine below_drewN ?_ _) | (with_reducible refine Below.setCell ?_ ?_ _) | (simp only [World.size_alloc, World.size_setCell, World.size_drew, size_drewN]; omega) | omega))⟩
  | true =>
    rw [hv] at C
    have C := Lib.hid C
    have hl6 : h.length ≤ 6 := by
      unfold histv at hv
      simp only [Bool.and_eq_true, decide_eq_true_eq] at hv
      exact hv.2
    have hj := thtx_join hv
    have hz : (thtx h).size ≤ 306 := by
      have := thL_size h h.length
      unfold thtx
      rw [hv]
      simp only [if_true]
      omega
    generalize thtx h = TX at hj hz ⊢
    have hjl : (Lib.join ((h.map txtx).map bl) [59, 32]).length ≤ 1048576 := by
      have := congrArg ByteArray.size hj
      have h2 : ByteArray.size ⟨(Lib.join ((h.map txtx).map bl) [59, 32]).toArray⟩ = (Lib.join ((h.map txtx).map bl) [59, 32]).length := by
        simp [ByteArray.size]
      omega
    obtain ⟨WD, hWD⟩ : ∃ WD : Nat → List ByteArray, ∀ k, WD k = (h.take k).map txtx := ⟨_, fun _ => rfl⟩
    have hWL : ∀ k, (WD k).length ≤ k := fun k => by rw [hWD]; simp; omega
    have hW0 : WD 0 = [] := by rw [hWD]; rfl
    have hJ : (⟨(Lib.join ((WD h.length).map bl) (bl ⟨#[59, 32]⟩)).toArray⟩ : ByteArray) = TX := by rw [hWD, List.take_length]; exact hj
    have hJL : (Lib.join ((WD h.length).map bl) (bl ⟨#[59, 32]⟩)).length ≤ 1048576 := by rw [hWD, List.take_length]; exact hjl
    have HWD := Lib.hid hWD
    have HW0 := Lib.hid hW0
    have HJ2 := Lib.hid hJ
    have HJL2 := Lib.hid hJL
    obtain ⟨i0, hi, hz0, hz1, hz2⟩ := info_parts infoS
    have hmk : ∀ W, (Instr.makeSlice 65 (.int .i64 0) (.int .i64 h.length)).run Tryd.prog W = .ok (.slice (some ⟨W.heap.size, 0, none⟩) 0 h.length) (W.alloc (.cells (madeCells (Value.string ⟨#[]⟩).cells (h.length * 1)) 9)) := fun W => by
      have hm := run_make_rowN (P := Tryd.prog) 65 9 i0 _ Tryd.underlying65 hi hz0 .i64 .i64 0 h.length (Nat.zero_le _) (by rw [hz2]; omega) (by omega) W
      rw [hz1] at hm
      exact hm
    clear hWD hJ hJL hj hjl hv hW0 hz
    go_enter Tryd.func19, Tryd.ntmps19
    go_wp2_with (fail)
    go_at_call 30
    refine (C.out _ (hx.ext (by (repeat' (first | (with_reducible exact Below.refl _ _) | (with_reducible refine Below.mono (by assumption) ?_) | (with_reducible refine Below.trans ?_ (Below.mono (by assumption) ?_)) | (with_reducible refine Below.alloc ?_ ?_ _) | (with_reducible refine Below.drew ?_) | (with_reducible refine below_drewN ?_ _) | (with_reducible refine Below.setCell ?_ ?_ _) | (simp only [World.size_alloc, World.size_setCell, World.size_drew, size_drewN]; omega) | omega))))).mono ?_
    rintro e w1 ⟨rfl, hb⟩
    obtain ⟨hc, hf, hz, hs⟩ := bcell hb
    (try simp only [World.size_alloc, World.size_setCell, World.size_drew, size_drewN] at hs); (first | have l0 := Nat.lt_of_lt_of_le l0 (show _ ≤ w1.heap.size by omega) | have l0 : w.heap.size < w1.heap.size := (by omega) | skip); (try have l0e := Nat.le_of_lt l0); (try have l0f := Nat.le_add_right_of_le (k := 1) l0e); (try have l1 := Nat.lt_of_lt_of_le l1 (show _ ≤ w1.heap.size by omega)); (try have l1e := Nat.le_of_lt l1); (try have l1f := Nat.le_add_right_of_le (k := 1) l1e); (try have l2 := Nat.lt_of_lt_of_le l2 (show _ ≤ w1.heap.size by omega)); (try have l2e := Nat.le_of_lt l2); (try have l2f := Nat.le_add_right_of_le (k := 1) l2e); (try have l3 := Nat.lt_of_lt_of_le l3 (show _ ≤ w1.heap.size by omega)); (try have l3e := Nat.le_of_lt l3); (try have l3f := Nat.le_add_right_of_le (k := 1) l3e)
    have e1x : Ext w w1 := by (repeat' (first | (with_reducible exact Below.refl _ _) | (with_reducible refine Below.mono (by assumption) ?_) | (with_reducible refine Below.trans ?_ (Below.mono (by assumption) ?_)) | (with_reducible refine Below.alloc ?_ ?_ _) | (with_reducible refine Below.drew ?_) | (with_reducible refine below_drewN ?_ _) | (with_reducible refine Below.setCell ?_ ?_ _) | (simp only [World.size_alloc, World.size_setCell, World.size_drew, size_drewN]; omega) | omega))
    clear hc hf hz hb
    go_wp2
    have hO : OwnS (w1.alloc (.cells (madeCells #[Value.string ⟨#[]⟩] h.length) 9)) w1.heap.size 9 (.slice (some ⟨w1.heap.size, 0, none⟩) 0 h.length) (WD 0) := by
      rw [HW0.out]
      exact OwnS.made w1 _ h.length rfl (by omega) (by omega) (by simp [madeCells])
    clear hmk
    go_loopw [3, 14] (fun v i wr => ∃ k : Nat, k ≤ h.length ∧ i = .int .i64 k ∧ OwnS wr w1.heap.size 9 v (WD k) ∧ Ext w1 wr) (fun _ i _ => h.length - (intOf i).toNat)
    case atStart => exact ⟨0, Nat.zero_le _, rfl, hO, by (repeat' (first | (with_reducible exact Below.refl _ _) | (with_reducible refine Below.mono (by assumption) ?_) | (with_reducible refine Below.trans ?_ (Below.mono (by assumption) ?_)) | (with_reducible refine Below.alloc ?_ ?_ _) | (with_reducible refine Below.drew ?_) | (with_reducible refine below_drewN ?_ _) | (with_reducible refine Below.setCell ?_ ?_ _) | (simp only [World.size_alloc, World.size_setCell, World.size_drew, size_drewN]; omega) | omega))⟩
    case round =>
      obtain ⟨k, hk, rfl, hown, hE⟩ := hrel
      have hE0 := e1x.tr hE
      have hzE := hE.size
      clear hO
      by_cases hlt : k < h.length
      · obtain ⟨s, ops, d, A', cap, b, off, hxk, rfl, _, hb0, hOp, c0, c1, c2⟩ := (hx.ext hE0).at_ hlt
        have hon := hsm.ops hxk
        simp only at hon
        have CO : Hid (∀ w, Ops S w A' ops → Calls Tryd.prog 14 #[.agg #[.int .i64 s, .slice A' ops.length cap, .bool d]] w fun e w' => e = .returned (.string (txtx ⟨s, ops, d⟩)) ∧ Ext w w') := Lib.hid (fun w hx => implTxnText_c ⟨s, ops, d⟩ S A' cap w hx hon)
        have hap : WD (k + 1) = WD k ++ [txtx ⟨s, ops, d⟩] := by
          rw [HWD.out, HWD.out, List.take_add_one, hxk]
          simp only [Option.toList, List.map_append, List.map_cons, List.map_nil]
        have HA := Lib.hid hap
        generalize txtx ⟨s, ops, d⟩ = OX at CO HA
        have hwl := hWL k
        clear hxk hap
        go_wp2_with (first
          | (go_at_call 14; refine (CO.out _ (hOp.ext (by (repeat' (first | (with_reducible exact Below.refl _ _) | (with_reducible refine Below.mono (by assumption) ?_) | (with_reducible refine Below.trans ?_ (Below.mono (by assumption) ?_)) | (with_reducible refine Below.alloc ?_ ?_ _) | (with_reducible refine Below.drew ?_) | (with_reducible refine below_drewN ?_ _) | (with_reducible refine Below.setCell ?_ ?_ _) | (simp only [World.size_alloc, World.size_setCell, World.size_drew, size_drewN]; omega) | omega))))).mono ?_; rintro e w4 ⟨rfl, hb⟩; have e4 : Ext wr w4 := (by (repeat' (first | (with_reducible exact Below.refl _ _) | (with_reducible refine Below.mono (by assumption) ?_) | (with_reducible refine Below.trans ?_ (Below.mono (by assumption) ?_)) | (with_reducible refine Below.alloc ?_ ?_ _) | (with_reducible refine Below.drew ?_) | (with_reducible refine below_drewN ?_ _) | (with_reducible refine Below.setCell ?_ ?_ _) | (simp only [World.size_alloc, World.size_setCell, World.size_drew, size_drewN]; omega) | omega))); have z4 := e4.size)
          | (at_builtin; refine wpList_appendS _ rfl _ _ 65 rfl w1.heap.size 9 Tryd.underlying65 infoS rfl _ (WD k) rfl (hown.ext (e4.tr (by (repeat' (first | (with_reducible exact Below.refl _ _) | (with_reducible refine Below.mono (by assumption) ?_) | (with_reducible refine Below.trans ?_ (Below.mono (by assumption) ?_)) | (with_reducible refine Below.alloc ?_ ?_ _) | (with_reducible refine Below.drew ?_) | (with_reducible refine below_drewN ?_ _) | (with_reducible refine Below.setCell ?_ ?_ _) | (simp only [World.size_alloc, World.size_setCell, World.size_drew, size_drewN]; omega) | omega))))) _ OX rfl ?_ ?_ ?_ ?_))
        · simp
        · omega
        · simp only [World.size_alloc]; omega
        · intro v' w' hown' hgrow
          rw [← HA.out] at hown'
          have hEb : Ext w4 (w4.alloc (.cells #[.string OX] 9)) := by (repeat' (first | (with_reducible exact Below.refl _ _) | (with_reducible refine Below.mono (by assumption) ?_) | (with_reducible refine Below.trans ?_ (Below.mono (by assumption) ?_)) | (with_reducible refine Below.alloc ?_ ?_ _) | (with_reducible refine Below.drew ?_) | (with_reducible refine below_drewN ?_ _) | (with_reducible refine Below.setCell ?_ ?_ _) | (simp only [World.size_alloc, World.size_setCell, World.size_drew, size_drewN]; omega) | omega))
          have hE5 : Ext w1 w' := Below.grown ((hE.tr e4).tr hEb) hgrow ((hE.tr e4).tr hEb).size (fun g hg => ownS_block hown g hg)
          clear hown hgrow
          go_wp2
          go_roundw
          case measure => simp [intOf]; omega
          case rel => exact ⟨k + 1, by omega, by go_num, hown', hE5⟩
      · obtain rfl : k = h.length := by omega
        have CJ := Lib.hid (join_c _ ⟨#[59, 32]⟩ hown (by have := hWL h.length; omega) HJL2.out)
        clear hown
        go_wp2_with (fail)
        go_at_call 40
        refine CJ.out.mono ?_
        rintro e w9 ⟨rfl, hb⟩
        go_wp2
        go_ret
        exact ⟨congrArg (fun s => Ending.returned (.string s)) HJ2.out, hE0.tr hb⟩
end Go.Proofs.YtciadlhencgjmaaDoor
