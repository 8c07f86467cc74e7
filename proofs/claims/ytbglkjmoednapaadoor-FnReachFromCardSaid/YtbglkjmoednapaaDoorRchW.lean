/-
  Contracts of ReachFrom: the walks.
-/
import Derived.Test.YtbglkjmoednapaaDoorRch
import Derived.Laws.Bits64b
namespace Go.Proofs.YtbglkjmoednapaaDoor
set_option linter.unusedSimpArgs false
set_option linter.unusedVariables false
set_option maxRecDepth 100000
open Go.RowKit Go.Shelf

theorem and127 (X : Int) : ∃ n : Nat, bits .and .i64 X 127 = (n : Int) ∧ n ≤ 127 := by
  have h : (BitVec.ofInt 64 X &&& BitVec.ofInt 64 127).toNat ≤ 127 := by
    rw [BitVec.toNat_and]
    exact Nat.le_trans Nat.and_le_right (by decide)
  refine ⟨_, ?_, h⟩
  show IntKind.i64.wrap ((BitVec.ofInt 64 X &&& BitVec.ofInt 64 127).toNat : Int) = _
  rw [IntKind.wrap_i64]
  omega
theorem tab_ext {g : Nat} {tab : List Nat} {w w' : World} (h : TabAt g tab w) (hE : Ext w w') : TabAt g tab w' := fun j hj => by
  have hc := h j hj
  have hb : g < w.heap.size := by
    rcases Nat.lt_or_ge g w.heap.size with h' | h'
    · exact h'
    · simp [World.cell?, Array.getElem?_eq_none h'] at hc
  exact hE.keep hb hc
theorem freshI_nil (w w' : World) (hE : Ext w w') : FreshI [] w (.returned (.slice none 0 0)) w' := ⟨none, 0, rfl, SlAt.nil, (fun a ha => by cases ha), hE⟩
theorem freshI_old {w w1 w2 : World} {xs : List Int} {e : Ending} (h : FreshI xs w1 e w2) (hE : Ext w w1) : FreshI xs w e w2 := by
  obtain ⟨A, c, he, hA, hf, hb⟩ := h
  exact ⟨A, c, he, SlAt.mono hA (fun b hb _ => Nat.le_trans hE.size hb) (fun _ _ h => h), fun a ha => ⟨Nat.le_trans hE.size (hf a ha).1, (hf a ha).2⟩, hE.tr hb⟩
def Tryd.lays727_ren : Go.Shelf.Ren := ⟨fun | 27 => 36 | 28 => 46 | 29 => 47 | n => n, fun | 25 => 42 | 3 => 3 | 27 => 70 | 22 => 72 | 4 => 4 | 53 => 76 | 0 => 0 | 5 => 5 | 54 => 77 | n => n, fun | 0 => 0 | 1 => 1 | n => n⟩
theorem Tryd.lays727 : Go.Proofs.Lays7.n27 Tryd.prog Tryd.lays727_ren := {
  mixed := by kernel_rfl
  f27 := Tryd.func36.trans (congrArg some (by kernel_rfl))
  f28 := Tryd.func46.trans (congrArg some (by kernel_rfl))
  f29 := Tryd.func47.trans (congrArg some (by kernel_rfl))
  t0 := Tryd.underlying0
  a0 := Tryd.isAgg0
  z0 := Tryd.sizeOf0
  v0 := Tryd.zeroValue0
  i0 := by kernel_rfl
  t3 := Tryd.underlying3
  a3 := Tryd.isAgg3
  z3 := Tryd.sizeOf3
  v3 := Tryd.zeroValue3
  i3 := by kernel_rfl
  t4 := Tryd.underlying4
  a4 := Tryd.isAgg4
  z4 := Tryd.sizeOf4
  v4 := Tryd.zeroValue4
  i4 := by kernel_rfl
  t5 := Tryd.underlying5
  a5 := Tryd.isAgg5
  z5 := Tryd.sizeOf5
  v5 := Tryd.zeroValue5
  i5 := by kernel_rfl
  t22 := Tryd.underlying72
  a22 := Tryd.isAgg72
  z22 := Tryd.sizeOf72
  v22 := Tryd.zeroValue72
  i22 := by kernel_rfl
  t25 := Tryd.underlying42
  a25 := Tryd.isAgg42
  z25 := Tryd.sizeOf42
  v25 := Tryd.zeroValue42
  i25 := by kernel_rfl
  t27 := Tryd.underlying70
  a27 := Tryd.isAgg70
  z27 := Tryd.sizeOf70
  v27 := Tryd.zeroValue70
  i27 := by kernel_rfl
  t53 := Tryd.underlying76
  a53 := Tryd.isAgg76
  z53 := Tryd.sizeOf76
  v53 := Tryd.zeroValue76
  i53 := by kernel_rfl
  t54 := Tryd.underlying77
  a54 := Tryd.isAgg77
  z54 := Tryd.sizeOf77
  g0 := by kernel_rfl
  g1 := by kernel_rfl }
theorem ones64_c (x : Int) (w : World) : Calls Tryd.prog 45 #[.int .u64 x] w fun e w' => ∃ n : Nat, e = .returned (.int .i64 n) ∧ n ≤ 127 ∧ Ext w w' := by
  go_enter Tryd.func45, Tryd.ntmps45
  go_wp2
  go_ret
  obtain ⟨n, hn, hle⟩ := and127 _
  exact ⟨n, congrArg (fun z => Ending.returned (Value.int .i64 z)) hn, hle, Below.refl _ _⟩
theorem ones_c (x : Nat) (hx : x < 64) (w : World) : Calls Tryd.prog 35 #[.int .u64 x] w fun e w' => ∃ n : Nat, e = .returned (.int .i64 n) ∧ n ≤ 127 ∧ Ext w w' := by
  go_enter Tryd.func35, Tryd.ntmps35
  go_wp2_with (fail)
  refine (ones64_c _ _).mono ?_
  rintro e w1 ⟨n, rfl, hn, hb⟩
  go_wp2
  go_ret
  exact ⟨n, rfl, hn, by (repeat' (first | (with_reducible exact Below.refl _ _) | (with_reducible refine Below.mono (by assumption) ?_) | (with_reducible refine Below.trans ?_ (Below.mono (by assumption) ?_)) | (with_reducible refine Below.alloc ?_ ?_ _) | (with_reducible refine Below.drew ?_) | (with_reducible refine below_drewN ?_ _) | (with_reducible refine Below.setCell ?_ ?_ _) | (simp only [World.size_alloc, World.size_setCell, World.size_drew, size_drewN]; omega) | omega))⟩
theorem ctz_c (x : Nat) (hx : x < 64) (w : World) (hT : TabAt (Tryd.lays727_ren.g 1) Lib.deBruijn64tab w) : Calls Tryd.prog 36 #[.int .u64 x] w fun e w' => e = .returned (.int .i64 (Lib.ctz 64 x : Int)) ∧ Ext w w' :=
  (Any7.bits_TrailingZeros Tryd.lays727 x (by omega) w (fun _ => hT)).mono fun e w' ⟨h, hw⟩ => ⟨h, hw ▸ Below.refl _ _⟩
set_option maxHeartbeats 2000000 in
theorem members_c (x : Nat) (hx : x < 64) (w : World) (hT : TabAt (Tryd.lays727_ren.g 1) Lib.deBruijn64tab w) : Calls Tryd.prog 19 #[.int .u64 x] w (FreshI (mem6 x) w) := by
  obtain ⟨i0, hi, hz0, hz1, hz2⟩ := info_parts infoInt
  have hst := mem6_step
  have HS := Lib.hid hst
  have HL := Lib.hid mem6_len
  clear hst
  go_enter Tryd.func19, Tryd.ntmps19
  go_wp2_with (fail)
  go_at_call 35
  refine (ones_c x hx _).mono ?_
  rintro e w1 ⟨n, rfl, hn, hb⟩
  obtain ⟨hc, hf, hz, hs⟩ := bcell hb
  (try simp only [World.size_alloc, World.size_setCell, World.size_drew, size_drewN] at hs); (first | have l0 := Nat.lt_of_lt_of_le l0 (show _ ≤ w1.heap.size by omega) | have l0 : w.heap.size < w1.heap.size := (by omega) | skip); (try have l0e := Nat.le_of_lt l0); (try have l0f := Nat.le_add_right_of_le (k := 1) l0e); (try have l1 := Nat.lt_of_lt_of_le l1 (show _ ≤ w1.heap.size by omega)); (try have l1e := Nat.le_of_lt l1); (try have l1f := Nat.le_add_right_of_le (k := 1) l1e); (try have l2 := Nat.lt_of_lt_of_le l2 (show _ ≤ w1.heap.size by omega)); (try have l2e := Nat.le_of_lt l2); (try have l2f := Nat.le_add_right_of_le (k := 1) l2e); (try have l3 := Nat.lt_of_lt_of_le l3 (show _ ≤ w1.heap.size by omega)); (try have l3e := Nat.le_of_lt l3); (try have l3f := Nat.le_add_right_of_le (k := 1) l3e)
  have e1 : Ext w w1 := by (repeat' (first | (with_reducible exact Below.refl _ _) | (with_reducible refine Below.mono (by assumption) ?_) | (with_reducible refine Below.trans ?_ (Below.mono (by assumption) ?_)) | (with_reducible refine Below.alloc ?_ ?_ _) | (with_reducible refine Below.drew ?_) | (with_reducible refine below_drewN ?_ _) | (with_reducible refine Below.setCell ?_ ?_ _) | (simp only [World.size_alloc, World.size_setCell, World.size_drew, size_drewN]; omega) | omega))
  have z1 := e1.size
  have hmk : (Instr.makeSlice 26 (.int .i64 0) (.int .i64 n)).run Tryd.prog w1 = .ok (.slice (some ⟨w1.heap.size, 0, none⟩) 0 n) (w1.alloc (.cells (madeCells (Value.int .i64 0).cells (n * 1)) 3)) := by
    have hm := run_make_rowN (P := Tryd.prog) 26 3 i0 _ Tryd.underlying26 hi hz0 .i64 .i64 0 n (Nat.zero_le _) (by rw [hz2]; omega) (by omega) w1
    rw [hz1] at hm
    exact hm
  clear hc hf hz hb
  go_wp2
  have hO : Own1 (w1.alloc (.cells (madeCells #[Value.int .i64 0] n) 3)) w1.heap.size 3 (.slice (some ⟨w1.heap.size, 0, none⟩) 0 n) [] :=
    Own1.made w1 _ n rfl (by omega) (by omega) (by simp [madeCells])
  clear hmk
  go_loopw [0, 3] (fun s v wr => ∃ (y : Nat) (out : List Int), y < 64 ∧ s = .int .u64 y ∧ Own1 wr w1.heap.size 3 v out ∧ out ++ mem6 y = mem6 x ∧ Ext w1 wr) (fun s _ _ => (intOf s).toNat)
  case atStart => exact ⟨x, [], hx, rfl, hO, rfl, by (repeat' (first | (with_reducible exact Below.refl _ _) | (with_reducible refine Below.mono (by assumption) ?_) | (with_reducible refine Below.trans ?_ (Below.mono (by assumption) ?_)) | (with_reducible refine Below.alloc ?_ ?_ _) | (with_reducible refine Below.drew ?_) | (with_reducible refine below_drewN ?_ _) | (with_reducible refine Below.setCell ?_ ?_ _) | (simp only [World.size_alloc, World.size_setCell, World.size_drew, size_drewN]; omega) | omega))⟩
  case round =>
    obtain ⟨y, out, hy, rfl, hown, hap, hE⟩ := hrel
    have hEz := hE.size
    have hol : out.length ≤ 6 := by
      have h1 := HL.out x
      rw [← hap, List.length_append] at h1
      omega
    have HA := Lib.hid hap
    clear hO hap
    by_cases h0 : y = 0
    · subst h0
      have hfin : out = mem6 x := by
        have := HA.out
        rw [← this]
        exact (List.append_nil out).symm
      have hfr := hown.fresh (w := w) z1 (e1.tr hE)
      rw [hfin] at hfr
      have HF := Lib.hid hfr
      clear hfin hfr
      go_wp2
      go_ret
      exact HF.out
    · have hne : ((y : Int) != 0) = true := by simp; omega
      obtain ⟨hm, hlt⟩ := HS.out y hy h0
      have hnx : (out ++ [(Lib.ctz 64 y : Int)]) ++ mem6 (y &&& (y - 1)) = mem6 x := by
        rw [← HA.out, hm]
        simp
      have HN := Lib.hid hnx
      have CT : Hid (∀ w, TabAt (Tryd.lays727_ren.g 1) Lib.deBruijn64tab w → Calls Tryd.prog 36 #[.int .u64 y] w fun e w' => e = .returned (.int .i64 (Lib.ctz 64 y : Int)) ∧ Ext w w') := Lib.hid (fun w h => ctz_c y hy w h)
      have hw : IntKind.u64.wrap ((y : Int) - 1) = ((y - 1 : Nat) : Int) := by rw [IntKind.wrap_u64]; omega
      have hb2 : bits .and .u64 (y : Int) ((y - 1 : Nat) : Int) = ((y &&& (y - 1) : Nat) : Int) := bits_and_u64_nat y (y - 1) (by omega) (by omega)
      have hTr := tab_ext hT (e1.tr hE)
      generalize (Lib.ctz 64 y : Nat) = Z at CT HN
      clear hm hnx
      have hlt64 : y &&& (y - 1) < 64 := by omega
      generalize y &&& (y - 1) = y2 at hb2 HN hlt hlt64
      go_wp2_with (first
        | (go_at_call 36; refine (CT.out _ (tab_ext hTr (by (repeat' (first | (with_reducible exact Below.refl _ _) | (with_reducible refine Below.mono (by assumption) ?_) | (with_reducible refine Below.trans ?_ (Below.mono (by assumption) ?_)) | (with_reducible refine Below.alloc ?_ ?_ _) | (with_reducible refine Below.drew ?_) | (with_reducible refine below_drewN ?_ _) | (with_reducible refine Below.setCell ?_ ?_ _) | (simp only [World.size_alloc, World.size_setCell, World.size_drew, size_drewN]; omega) | omega))))).mono ?_; rintro e w4 ⟨rfl, hb⟩; have e4 : Ext wr w4 := (by (repeat' (first | (with_reducible exact Below.refl _ _) | (with_reducible refine Below.mono (by assumption) ?_) | (with_reducible refine Below.trans ?_ (Below.mono (by assumption) ?_)) | (with_reducible refine Below.alloc ?_ ?_ _) | (with_reducible refine Below.drew ?_) | (with_reducible refine below_drewN ?_ _) | (with_reducible refine Below.setCell ?_ ?_ _) | (simp only [World.size_alloc, World.size_setCell, World.size_drew, size_drewN]; omega) | omega))); have z4 := e4.size)
        | (at_builtin; refine wpList_append1 _ rfl _ _ 26 rfl w1.heap.size 3 Tryd.underlying26 infoInt rfl _ out rfl (hown.ext (e4.tr (by (repeat' (first | (with_reducible exact Below.refl _ _) | (with_reducible refine Below.mono (by assumption) ?_) | (with_reducible refine Below.trans ?_ (Below.mono (by assumption) ?_)) | (with_reducible refine Below.alloc ?_ ?_ _) | (with_reducible refine Below.drew ?_) | (with_reducible refine below_drewN ?_ _) | (with_reducible refine Below.setCell ?_ ?_ _) | (simp only [World.size_alloc, World.size_setCell, World.size_drew, size_drewN]; omega) | omega))))) _ Z rfl ?_ ?_ ?_ ?_))
      · simp
      · omega
      · simp only [World.size_alloc]; omega
      · intro v' w' hown' hgrow
        have hEb : Ext w4 (w4.alloc (.cells #[.int .i64 Z] 3)) := by (repeat' (first | (with_reducible exact Below.refl _ _) | (with_reducible refine Below.mono (by assumption) ?_) | (with_reducible refine Below.trans ?_ (Below.mono (by assumption) ?_)) | (with_reducible refine Below.alloc ?_ ?_ _) | (with_reducible refine Below.drew ?_) | (with_reducible refine below_drewN ?_ _) | (with_reducible refine Below.setCell ?_ ?_ _) | (simp only [World.size_alloc, World.size_setCell, World.size_drew, size_drewN]; omega) | omega))
        have hE5 : Ext w1 w' := Below.grown ((hE.tr e4).tr hEb) hgrow ((hE.tr e4).tr hEb).size (fun g hg => own1_block hown g hg)
        clear hown hgrow
        go_wp2
        exact ⟨⟨y2, out ++ [(Z : Int)], hlt64, rfl, hown', HN.out, hE5⟩, by simp [intOf]; omega⟩

theorem any_take {α : Type} {p : α → Bool} {l : List α} {j : Nat} {x : α} (h : l[j]? = some x) : (l.take (j + 1)).any p = ((l.take j).any p || p x) := by
  rw [List.take_add_one, h, List.any_append]
  simp
set_option maxHeartbeats 4000000 in
theorem specReachFrom_ok (m f : Nat) (L : List T3) (S : Nat → Prop) (A : Option Addr) (c : Nat) (w : World) (hx : Ops S w A L) (hl : L.length ≤ 144) (hm6 : m ≤ 6) (hfm : f < m) (hL : EdM m L) (hv : edgesValid m L = true) :
    Calls Tryd.prog 8 #[.int .i64 m, .slice A L.length c, .int .i64 f] w (FreshI (rchT m L f m) w) := by
  have CV := fun w hx => specEdgesValid_c m L S A c w hx (by omega)
  rw [hv] at CV
  have CV := Lib.hid CV
  have HV := Lib.hid hL
  have CK := fun w => l1In_c f 0 ((m : Int) - 1) w
  rw [show inB (f : Int) 0 ((m : Int) - 1) = true by simp [inB]; omega] at CK
  have CK := Lib.hid CK
  have CF := fun t ht w hx => l9Far_c m t L S A c w hx hl hm6 ht hL
  have CF := Lib.hid CF
  clear hv hL
  go_enter Tryd.func8, Tryd.ntmps8
  go_wp2_with (fail)
  have hO : Own1 (w.alloc (.cells #[] 3)) w.heap.size 3 (.slice (some ⟨w.heap.size, 0, none⟩) 0 0) (rchT m L f 0) := Own1.made w _ 0 rfl (by omega) (by omega) (by simp)
  go_wp2_with (fail)
  go_at_call 22
  refine (CV.out _ (hx.ext (by (repeat' (first | (with_reducible exact Below.refl _ _) | (with_reducible refine Below.mono (by assumption) ?_) | (with_reducible refine Below.trans ?_ (Below.mono (by assumption) ?_)) | (with_reducible refine Below.alloc ?_ ?_ _) | (with_reducible refine Below.drew ?_) | (with_reducible refine below_drewN ?_ _) | (with_reducible refine Below.setCell ?_ ?_ _) | (simp only [World.size_alloc, World.size_setCell, World.size_drew, size_drewN]; omega) | omega))))).mono ?_
  rintro e w1 ⟨rfl, hb⟩
  obtain ⟨hc, hf, hz, hs⟩ := bcell hb
  (try simp only [World.size_alloc, World.size_setCell, World.size_drew, size_drewN] at hs); (first | have l0 := Nat.lt_of_lt_of_le l0 (show _ ≤ w1.heap.size by omega) | have l0 : w.heap.size < w1.heap.size := (by omega) | skip); (try have l0e := Nat.le_of_lt l0); (try have l0f := Nat.le_add_right_of_le (k := 1) l0e); (try have l1 := Nat.lt_of_lt_of_le l1 (show _ ≤ w1.heap.size by omega)); (try have l1e := Nat.le_of_lt l1); (try have l1f := Nat.le_add_right_of_le (k := 1) l1e); (try have l2 := Nat.lt_of_lt_of_le l2 (show _ ≤ w1.heap.size by omega)); (try have l2e := Nat.le_of_lt l2); (try have l2f := Nat.le_add_right_of_le (k := 1) l2e); (try have l3 := Nat.lt_of_lt_of_le l3 (show _ ≤ w1.heap.size by omega)); (try have l3e := Nat.le_of_lt l3); (try have l3f := Nat.le_add_right_of_le (k := 1) l3e)
  have e1 : Ext w w1 := by (repeat' (first | (with_reducible exact Below.refl _ _) | (with_reducible refine Below.mono (by assumption) ?_) | (with_reducible refine Below.trans ?_ (Below.mono (by assumption) ?_)) | (with_reducible refine Below.alloc ?_ ?_ _) | (with_reducible refine Below.drew ?_) | (with_reducible refine below_drewN ?_ _) | (with_reducible refine Below.setCell ?_ ?_ _) | (simp only [World.size_alloc, World.size_setCell, World.size_drew, size_drewN]; omega) | omega))
  have hO1 := hO.ext hb
  clear hc hf hz hb hO
  go_wp2_with (fail)
  refine (CK.out _).mono ?_
  rintro e w' ⟨rfl, rfl⟩
  go_wp2
  go_loopw [7, 8] (fun v i wr => ∃ k : Nat, k ≤ m ∧ i = .int .i64 k ∧ Own1 wr w.heap.size 3 v (rchT m L f k) ∧ Ext w wr) (fun _ i _ => m - (intOf i).toNat)
  case atStart => exact ⟨0, Nat.zero_le _, rfl, hO1, e1⟩
  case round =>
    obtain ⟨k, hk, rfl, hown, hE⟩ := hrel
    have hEz := hE.size
    clear hO1
    by_cases hlt : k < m
    · have hst := rchT_succ m L f k
      have hlen := rchT_len m L f k
      go_wp2_with (fail)
      refine (CF.out k hlt _ (hx.ext hE)).mono ?_
      rintro e w2 ⟨B, c', rfl, hF, hfB, hb⟩
      have e2 := hE.tr hb
      have hown2 := hown.ext hb
      have hz2 := e2.size
      have hpd : rchP m L f k = L.any fun e => decide (e.a = f) && decide (0 ≤ farT L k m e.b.toNat) := rfl
      have hge := fun v => farT_ge HV.out k m v
      rw [fl_len]
      generalize farT L k m = g at hF hpd hge
      obtain ⟨bb, off, rfl, hbb, _⟩ := hF.off_ (by rw [fl_len]; omega)
      generalize rchP m L f k = PK at hst hpd
      generalize hPe : (fun e : T3 => decide (e.a = (f : Int)) && decide (0 ≤ g e.b.toNat)) = PE at hpd
      have HP := Lib.hid hpd
      have HS := Lib.hid hst
      have HPE := Lib.hid (fun (e : T3) => congrFun hPe e)
      have HFF := Lib.hid hF
      have HGE := Lib.hid hge
      clear hpd hst hPe hown hb hfB hF hge
      go_wp2
      go_loopw [10, 11] (fun b i wr => ∃ j : Nat, j ≤ L.length ∧ i = .int .i64 j ∧ b = .bool ((L.take j).any PE) ∧ wr = w2) (fun _ i _ => L.length - (intOf i).toNat)
      case atStart => exact ⟨0, Nat.zero_le _, rfl, rfl, rfl⟩
      case round =>
        obtain ⟨j, hj, rfl, rfl, rfl⟩ := hrel
        by_cases hlt2 : j < L.length
        · obtain ⟨x0, x1, x2, b2, off2, hxk, rfl, _, hb2, d0, d1, d2⟩ := (hx.ext e2).at_ hlt2
          obtain ⟨v1, v2, v3, v4, _⟩ := HV.out _ (List.mem_of_getElem? hxk)
          simp only at v1 v2 v3 v4
          have hat := any_take (p := PE) hxk
          rw [← HPE.out] at hat
          simp only at hat
          obtain ⟨y, rfl⟩ := Int.eq_ofNat_of_zero_le v3
          have hy : y < m := by omega
          have cy := HFF.out.cell (fl_get (f := g) hy)
          have hyi : (y : Int) < m := by omega
          have hgy := HGE.out y
          rw [Int.toNat_natCast] at hat
          generalize g y = gy at cy hat hgy
          generalize (L.take j).any PE = fb at hat ⊢
          have HAT := Lib.hid hat
          clear hat hxk
          cases fb with
          | true =>
            go_wp2
            exact ⟨⟨j + 1, by omega, by go_num, by rw [HAT.out]; simp, trivial⟩, by simp [intOf]; omega⟩
          | false =>
            by_cases h1 : x0 = f
            · have b1 : (x0 == (f : Int)) = true := by simp [h1]
              by_cases h2 : 0 ≤ gy
              · have b2 : decide (0 ≤ gy) = true := decide_eq_true h2
                go_wp2
                exact ⟨⟨j + 1, by omega, by go_num, by rw [HAT.out]; simp [h1, h2], trivial⟩, by simp [intOf]; omega⟩
              · have b2 : decide (0 ≤ gy) = false := decide_eq_false h2
                go_wp2
                exact ⟨⟨j + 1, by omega, by go_num, by rw [HAT.out]; simp [h1, h2], trivial⟩, by simp [intOf]; omega⟩
            · have b1 : (x0 == (f : Int)) = false := by simp [h1]
              go_wp2
              exact ⟨⟨j + 1, by omega, by go_num, by rw [HAT.out]; simp [h1], trivial⟩, by simp [intOf]; omega⟩
        · obtain rfl : j = L.length := by omega
          rw [List.take_length, ← HP.out]
          cases PK with
          | false =>
            have hs2 := HS.out
            simp only [Bool.false_eq_true, if_false] at hs2
            have HS2 := Lib.hid hs2
            clear hs2
            go_wp2
            exact ⟨⟨k + 1, by omega, by go_num, by rw [HS2.out]; exact hown2, e2⟩, by simp [intOf]; omega⟩
          | true =>
            have hs2 := HS.out
            simp only [if_true] at hs2
            have HS2 := Lib.hid hs2
            clear hs2
            go_wp2_with (at_builtin; refine wpList_append1 _ rfl _ _ 26 rfl w.heap.size 3 Tryd.underlying26 infoInt rfl _ (rchT m L f k) rfl (hown2.ext (by (repeat' (first | (with_reducible exact Below.refl _ _) | (with_reducible refine Below.mono (by assumption) ?_) | (with_reducible refine Below.trans ?_ (Below.mono (by assumption) ?_)) | (with_reducible refine Below.alloc ?_ ?_ _) | (with_reducible refine Below.drew ?_) | (with_reducible refine below_drewN ?_ _) | (with_reducible refine Below.setCell ?_ ?_ _) | (simp only [World.size_alloc, World.size_setCell, World.size_drew, size_drewN]; omega) | omega)))) _ k rfl ?_ ?_ ?_ ?_)
            all_goals try omega
            all_goals try (simp only [World.size_alloc]; omega)
            · intro v' w' hown' hgrow
              rw [← HS2.out] at hown'
              have hEb : Ext wr (wr.alloc (.cells #[.int .i64 k] 3)) := by (repeat' (first | (with_reducible exact Below.refl _ _) | (with_reducible refine Below.mono (by assumption) ?_) | (with_reducible refine Below.trans ?_ (Below.mono (by assumption) ?_)) | (with_reducible refine Below.alloc ?_ ?_ _) | (with_reducible refine Below.drew ?_) | (with_reducible refine below_drewN ?_ _) | (with_reducible refine Below.setCell ?_ ?_ _) | (simp only [World.size_alloc, World.size_setCell, World.size_drew, size_drewN]; omega) | omega))
              have hE5 : Ext w w' := Below.grown (e2.tr hEb) hgrow (e2.tr hEb).size (fun g hg => own1_block hown2 g hg)
              clear hown2 hgrow
              go_wp2
              go_roundw
              case measure => simp [intOf]; omega
              case rel => exact ⟨k + 1, by omega, by go_num, hown', hE5⟩
    · obtain rfl : k = m := by omega
      have hfr := hown.fresh (Nat.le_refl _) hE
      go_wp2
      go_ret
      exact hfr
theorem specReachFrom_c (many : Int) (L : List T3) (fr : Int) (S : Nat → Prop) (A : Option Addr) (c : Nat) (w : World) (hx : Ops S w A L) (hn : L.length ≤ 1048576) :
    Calls Tryd.prog 8 #[.int .i64 many, .slice A L.length c, .int .i64 fr] w (FreshI (rchV many L fr) w) := by
  unfold rchV
  by_cases h : edgesValid many L = true ∧ inB fr 0 (many - 1) = true
  · rw [if_pos h]
    have hv := h.1
    obtain ⟨m, rfl, hm6, hl, hval⟩ := edgesValid_iff hv
    have hb := h.2
    simp only [inB, Bool.and_eq_true, decide_eq_true_eq] at hb
    obtain ⟨f, rfl⟩ := Int.eq_ofNat_of_zero_le hb.1
    rw [Int.toNat_natCast]
    exact specReachFrom_ok m f L S A c w hx hl hm6 (by omega) hval hv
  · rw [if_neg h]
    have C := fun w hx => specEdgesValid_c many L S A c w hx hn
    have CK := fun w => l1In_c fr 0 (wrap64 (many - 1)) w
    have hO : Own1 (w.alloc (.cells #[] 3)) w.heap.size 3 (.slice (some ⟨w.heap.size, 0, none⟩) 0 0) [] := Own1.made w _ 0 rfl (by omega) (by omega) (by simp)
    cases hv : edgesValid many L with
    | false =>
      rw [hv] at C
      have C := Lib.hid C
      clear h hv CK
      go_enter Tryd.func8, Tryd.ntmps8
      go_wp2_with (fail)
      go_at_call 22
      refine (C.out _ (hx.ext (by (repeat' (first | (with_reducible exact Below.refl _ _) | (with_reducible refine Below.mono (by assumption) ?_) | (with_reducible refine Below.trans ?_ (Below.mono (by assumption) ?_)) | (with_reducible refine Below.alloc ?_ ?_ _) | (with_reducible refine Below.drew ?_) | (with_reducible refine below_drewN ?_ _) | (with_reducible refine Below.setCell ?_ ?_ _) | (simp only [World.size_alloc, World.size_setCell, World.size_drew, size_drewN]; omega) | omega))))).mono ?_
      rintro e w1 ⟨rfl, hb⟩
      obtain ⟨hc, hf, hz, hs⟩ := bcell hb
      (try simp only [World.size_alloc, World.size_setCell, World.size_drew, size_drewN] at hs); (first | have l0 := Nat.lt_of_lt_of_le l0 (show _ ≤ w1.heap.size by omega) | have l0 : w.heap.size < w1.heap.size := (by omega) | skip); (try have l0e := Nat.le_of_lt l0); (try have l0f := Nat.le_add_right_of_le (k := 1) l0e); (try have l1 := Nat.lt_of_lt_of_le l1 (show _ ≤ w1.heap.size by omega)); (try have l1e := Nat.le_of_lt l1); (try have l1f := Nat.le_add_right_of_le (k := 1) l1e); (try have l2 := Nat.lt_of_lt_of_le l2 (show _ ≤ w1.heap.size by omega)); (try have l2e := Nat.le_of_lt l2); (try have l2f := Nat.le_add_right_of_le (k := 1) l2e); (try have l3 := Nat.lt_of_lt_of_le l3 (show _ ≤ w1.heap.size by omega)); (try have l3e := Nat.le_of_lt l3); (try have l3f := Nat.le_add_right_of_le (k := 1) l3e)
      go_wp2
      go_ret
      exact (hO.ext hb).fresh (Nat.le_refl _) (by (repeat' (first | (with_reducible exact Below.refl _ _) | (with_reducible refine Below.mono (by assumption) ?_) | (with_reducible refine Below.trans ?_ (Below.mono (by assumption) ?_)) | (with_reducible refine Below.alloc ?_ ?_ _) | (with_reducible refine Below.drew ?_) | (with_reducible refine below_drewN ?_ _) | (with_reducible refine Below.setCell ?_ ?_ _) | (simp only [World.size_alloc, World.size_setCell, World.size_drew, size_drewN]; omega) | omega)))
    | true =>
      rw [hv] at C
      have C := Lib.hid C
      obtain ⟨m, rfl, hm6, hl, hval⟩ := edgesValid_iff hv
      have hw : wrap64 ((m : Int) - 1) = (m : Int) - 1 := by unfold wrap64; omega
      have hbf : inB fr 0 ((m : Int) - 1) = false := by
        cases hb : inB fr 0 ((m : Int) - 1) with
        | false => rfl
        | true => exact absurd ⟨hv, hb⟩ h
      rw [hw, hbf] at CK
      have CK := Lib.hid CK
      clear h hv hbf
      go_enter Tryd.func8, Tryd.ntmps8
      go_wp2_with (fail)
      go_at_call 22
      refine (C.out _ (hx.ext (by (repeat' (first | (with_reducible exact Below.refl _ _) | (with_reducible refine Below.mono (by assumption) ?_) | (with_reducible refine Below.trans ?_ (Below.mono (by assumption) ?_)) | (with_reducible refine Below.alloc ?_ ?_ _) | (with_reducible refine Below.drew ?_) | (with_reducible refine below_drewN ?_ _) | (with_reducible refine Below.setCell ?_ ?_ _) | (simp only [World.size_alloc, World.size_setCell, World.size_drew, size_drewN]; omega) | omega))))).mono ?_
      rintro e w1 ⟨rfl, hb⟩
      obtain ⟨hc, hf, hz, hs⟩ := bcell hb
      (try simp only [World.size_alloc, World.size_setCell, World.size_drew, size_drewN] at hs); (first | have l0 := Nat.lt_of_lt_of_le l0 (show _ ≤ w1.heap.size by omega) | have l0 : w.heap.size < w1.heap.size := (by omega) | skip); (try have l0e := Nat.le_of_lt l0); (try have l0f := Nat.le_add_right_of_le (k := 1) l0e); (try have l1 := Nat.lt_of_lt_of_le l1 (show _ ≤ w1.heap.size by omega)); (try have l1e := Nat.le_of_lt l1); (try have l1f := Nat.le_add_right_of_le (k := 1) l1e); (try have l2 := Nat.lt_of_lt_of_le l2 (show _ ≤ w1.heap.size by omega)); (try have l2e := Nat.le_of_lt l2); (try have l2f := Nat.le_add_right_of_le (k := 1) l2e); (try have l3 := Nat.lt_of_lt_of_le l3 (show _ ≤ w1.heap.size by omega)); (try have l3e := Nat.le_of_lt l3); (try have l3f := Nat.le_add_right_of_le (k := 1) l3e)
      go_wp2_with (fail)
      refine (CK.out _).mono ?_
      rintro e w' ⟨rfl, rfl⟩
      go_wp2
      go_ret
      exact (hO.ext hb).fresh (Nat.le_refl _) (by (repeat' (first | (with_reducible exact Below.refl _ _) | (with_reducible refine Below.mono (by assumption) ?_) | (with_reducible refine Below.trans ?_ (Below.mono (by assumption) ?_)) | (with_reducible refine Below.alloc ?_ ?_ _) | (with_reducible refine Below.drew ?_) | (with_reducible refine below_drewN ?_ _) | (with_reducible refine Below.setCell ?_ ?_ _) | (simp only [World.size_alloc, World.size_setCell, World.size_drew, size_drewN]; omega) | omega)))

set_option maxHeartbeats 4000000 in
theorem implReachFrom_ok (m f : Nat) (L : List T3) (S : Nat → Prop) (A : Option Addr) (c : Nat) (w : World) (hx : Ops S w A L) (hl : L.length ≤ 144) (hm6 : m ≤ 6) (hfm : f < m) (hL : EdM m L) (hv : edgesValid m L = true) (hT : TabAt (Tryd.lays727_ren.g 1) Lib.deBruijn64tab w) :
    Calls Tryd.prog 6 #[.int .i64 m, .slice A L.length c, .int .i64 f] w (FreshI (rchT m L f m) w) := by
  rw [← rch_mem hm6 hL hfm]
  have CV := fun w hx => implEdgesValid_c m L S A c w hx (by omega)
  rw [hv] at CV
  have CV := Lib.hid CV
  have CK := fun w => within_c f 0 ((m : Int) - 1) w
  rw [show inB (f : Int) 0 ((m : Int) - 1) = true by simp [inB]; omega] at CK
  have CK := Lib.hid CK
  have h6 := edM_ed6 hm6 hL
  have hlow := rowsOf_low [1, 2, 3, 4] L h6
  have hcl := clo_low hlow
  have CA := Lib.hid (fun w hx => allOf_c L S A c w hx h6 (by omega))
  have CR := Lib.hid (fun w => reach_c (rowsOf [1, 2, 3, 4] L) w hlow)
  have CM : Hid (∀ w, TabAt (Tryd.lays727_ren.g 1) Lib.deBruijn64tab w → Calls Tryd.prog 19 #[.int .u64 ((clo (rowsOf [1, 2, 3, 4] L) f : Nat) : Int)] w (FreshI (mem6 (clo (rowsOf [1, 2, 3, 4] L) f)) w)) := Lib.hid (fun w hT => members_c _ (hcl f (by omega)) w hT)
  generalize clo (rowsOf [1, 2, 3, 4] L) = G at CR CM hcl ⊢
  generalize rowsOf [1, 2, 3, 4] L = F at CA CR
  clear hv hL h6 hlow hcl
  obtain rfl | rfl | rfl | rfl | rfl | rfl : f = 0 ∨ f = 1 ∨ f = 2 ∨ f = 3 ∨ f = 4 ∨ f = 5 := by omega
  · have hix : ∀ W, Sem.run Tryd.prog (Instr.index 44 (.agg #[.int .u64 ((G 0 : Nat) : Int), .int .u64 ((G 1 : Nat) : Int), .int .u64 ((G 2 : Nat) : Int), .int .u64 ((G 3 : Nat) : Int), .int .u64 ((G 4 : Nat) : Int), .int .u64 ((G 5 : Nat) : Int)]) (.int .i64 0)) W = .ok (.int .u64 ((G 0 : Nat) : Int)) W := fun W => by kernel_rfl
    go_enter Tryd.func6, Tryd.ntmps6
    go_wp2_with (fail)
    go_at_call 17
    refine (CV.out _ (hx.ext (by (repeat' (first | (with_reducible exact Below.refl _ _) | (with_reducible refine Below.mono (by assumption) ?_) | (with_reducible refine Below.trans ?_ (Below.mono (by assumption) ?_)) | (with_reducible refine Below.alloc ?_ ?_ _) | (with_reducible refine Below.drew ?_) | (with_reducible refine below_drewN ?_ _) | (with_reducible refine Below.setCell ?_ ?_ _) | (simp only [World.size_alloc, World.size_setCell, World.size_drew, size_drewN]; omega) | omega))))).mono ?_
    rintro e w1 ⟨rfl, hb1⟩
    go_wp2_with (fail)
    refine (CK.out _).mono ?_
    rintro e w' ⟨rfl, rfl⟩
    go_wp2_with (fail)
    go_at_call 20
    refine (CA.out _ (hx.ext hb1)).mono ?_
    rintro e w2 ⟨rfl, hb2⟩
    go_wp2_with (fail)
    refine (CR.out _).mono ?_
    rintro e w3 ⟨rfl, hb3⟩
    go_wp2_with (fail)
    refine (CM.out _ (tab_ext hT ((hb1.tr hb2).tr hb3))).mono ?_
    rintro e w4 hF
    obtain ⟨A5, c5, rfl, h1, h2, h3⟩ := freshI_old hF ((hb1.tr hb2).tr hb3)
    go_wp2
    go_ret
    exact ⟨A5, c5, rfl, h1, h2, h3⟩
  · have hix : ∀ W, Sem.run Tryd.prog (Instr.index 44 (.agg #[.int .u64 ((G 0 : Nat) : Int), .int .u64 ((G 1 : Nat) : Int), .int .u64 ((G 2 : Nat) : Int), .int .u64 ((G 3 : Nat) : Int), .int .u64 ((G 4 : Nat) : Int), .int .u64 ((G 5 : Nat) : Int)]) (.int .i64 1)) W = .ok (.int .u64 ((G 1 : Nat) : Int)) W := fun W => by kernel_rfl
    go_enter Tryd.func6, Tryd.ntmps6
    go_wp2_with (fail)
    go_at_call 17
    refine (CV.out _ (hx.ext (by (repeat' (first | (with_reducible exact Below.refl _ _) | (with_reducible refine Below.mono (by assumption) ?_) | (with_reducible refine Below.trans ?_ (Below.mono (by assumption) ?_)) | (with_reducible refine Below.alloc ?_ ?_ _) | (with_reducible refine Below.drew ?_) | (with_reducible refine below_drewN ?_ _) | (with_reducible refine Below.setCell ?_ ?_ _) | (simp only [World.size_alloc, World.size_setCell, World.size_drew, size_drewN]; omega) | omega))))).mono ?_
    rintro e w1 ⟨rfl, hb1⟩
    go_wp2_with (fail)
    refine (CK.out _).mono ?_
    rintro e w' ⟨rfl, rfl⟩
    go_wp2_with (fail)
    go_at_call 20
    refine (CA.out _ (hx.ext hb1)).mono ?_
    rintro e w2 ⟨rfl, hb2⟩
    go_wp2_with (fail)
    refine (CR.out _).mono ?_
    rintro e w3 ⟨rfl, hb3⟩
    go_wp2_with (fail)
    refine (CM.out _ (tab_ext hT ((hb1.tr hb2).tr hb3))).mono ?_
    rintro e w4 hF
    obtain ⟨A5, c5, rfl, h1, h2, h3⟩ := freshI_old hF ((hb1.tr hb2).tr hb3)
    go_wp2
    go_ret
    exact ⟨A5, c5, rfl, h1, h2, h3⟩
  · have hix : ∀ W, Sem.run Tryd.prog (Instr.index 44 (.agg #[.int .u64 ((G 0 : Nat) : Int), .int .u64 ((G 1 : Nat) : Int), .int .u64 ((G 2 : Nat) : Int), .int .u64 ((G 3 : Nat) : Int), .int .u64 ((G 4 : Nat) : Int), .int .u64 ((G 5 : Nat) : Int)]) (.int .i64 2)) W = .ok (.int .u64 ((G 2 : Nat) : Int)) W := fun W => by kernel_rfl
    go_enter Tryd.func6, Tryd.ntmps6
    go_wp2_with (fail)
    go_at_call 17
    refine (CV.out _ (hx.ext (by (repeat' (first | (with_reducible exact Below.refl _ _) | (with_reducible refine Below.mono (by assumption) ?_) | (with_reducible refine Below.trans ?_ (Below.mono (by assumption) ?_)) | (with_reducible refine Below.alloc ?_ ?_ _) | (with_reducible refine Below.drew ?_) | (with_reducible refine below_drewN ?_ _) | (with_reducible refine Below.setCell ?_ ?_ _) | (simp only [World.size_alloc, World.size_setCell, World.size_drew, size_drewN]; omega) | omega))))).mono ?_
    rintro e w1 ⟨rfl, hb1⟩
    go_wp2_with (fail)
    refine (CK.out _).mono ?_
    rintro e w' ⟨rfl, rfl⟩
    go_wp2_with (fail)
    go_at_call 20
    refine (CA.out _ (hx.ext hb1)).mono ?_
    rintro e w2 ⟨rfl, hb2⟩
    go_wp2_with (fail)
    refine (CR.out _).mono ?_
    rintro e w3 ⟨rfl, hb3⟩
    go_wp2_with (fail)
    refine (CM.out _ (tab_ext hT ((hb1.tr hb2).tr hb3))).mono ?_
    rintro e w4 hF
    obtain ⟨A5, c5, rfl, h1, h2, h3⟩ := freshI_old hF ((hb1.tr hb2).tr hb3)
    go_wp2
    go_ret
    exact ⟨A5, c5, rfl, h1, h2, h3⟩
  · have hix : ∀ W, Sem.run Tryd.prog (Instr.index 44 (.agg #[.int .u64 ((G 0 : Nat) : Int), .int .u64 ((G 1 : Nat) : Int), .int .u64 ((G 2 : Nat) : Int), .int .u64 ((G 3 : Nat) : Int), .int .u64 ((G 4 : Nat) : Int), .int .u64 ((G 5 : Nat) : Int)]) (.int .i64 3)) W = .ok (.int .u64 ((G 3 : Nat) : Int)) W := fun W => by kernel_rfl
    go_enter Tryd.func6, Tryd.ntmps6
    go_wp2_with (fail)
    go_at_call 17
    refine (CV.out _ (hx.ext (by (repeat' (first | (with_reducible exact Below.refl _ _) | (with_reducible refine Below.mono (by assumption) ?_) | (with_reducible refine Below.trans ?_ (Below.mono (by assumption) ?_)) | (with_reducible refine Below.alloc ?_ ?_ _) | (with_reducible refine Below.drew ?_) | (with_reducible refine below_drewN ?_ _) | (with_reducible refine Below.setCell ?_ ?_ _) | (simp only [World.size_alloc, World.size_setCell, World.size_drew, size_drewN]; omega) | omega))))).mono ?_
    rintro e w1 ⟨rfl, hb1⟩
    go_wp2_with (fail)
    refine (CK.out _).mono ?_
    rintro e w' ⟨rfl, rfl⟩
    go_wp2_with (fail)
    go_at_call 20
    refine (CA.out _ (hx.ext hb1)).mono ?_
    rintro e w2 ⟨rfl, hb2⟩
    go_wp2_with (fail)
    refine (CR.out _).mono ?_
    rintro e w3 ⟨rfl, hb3⟩
    go_wp2_with (fail)
    refine (CM.out _ (tab_ext hT ((hb1.tr hb2).tr hb3))).mono ?_
    rintro e w4 hF
    obtain ⟨A5, c5, rfl, h1, h2, h3⟩ := freshI_old hF ((hb1.tr hb2).tr hb3)
    go_wp2
    go_ret
    exact ⟨A5, c5, rfl, h1, h2, h3⟩
  · have hix : ∀ W, Sem.run Tryd.prog (Instr.index 44 (.agg #[.int .u64 ((G 0 : Nat) : Int), .int .u64 ((G 1 : Nat) : Int), .int .u64 ((G 2 : Nat) : Int), .int .u64 ((G 3 : Nat) : Int), .int .u64 ((G 4 : Nat) : Int), .int .u64 ((G 5 : Nat) : Int)]) (.int .i64 4)) W = .ok (.int .u64 ((G 4 : Nat) : Int)) W := fun W => by kernel_rfl
    go_enter Tryd.func6, Tryd.ntmps6
    go_wp2_with (fail)
    go_at_call 17
    refine (CV.out _ (hx.ext (by (repeat' (first | (with_reducible exact Below.refl _ _) | (with_reducible refine Below.mono (by assumption) ?_) | (with_reducible refine Below.trans ?_ (Below.mono (by assumption) ?_)) | (with_reducible refine Below.alloc ?_ ?_ _) | (with_reducible refine Below.drew ?_) | (with_reducible refine below_drewN ?_ _) | (with_reducible refine Below.setCell ?_ ?_ _) | (simp only [World.size_alloc, World.size_setCell, World.size_drew, size_drewN]; omega) | omega))))).mono ?_
    rintro e w1 ⟨rfl, hb1⟩
    go_wp2_with (fail)
    refine (CK.out _).mono ?_
    rintro e w' ⟨rfl, rfl⟩
    go_wp2_with (fail)
    go_at_call 20
    refine (CA.out _ (hx.ext hb1)).mono ?_
    rintro e w2 ⟨rfl, hb2⟩
    go_wp2_with (fail)
    refine (CR.out _).mono ?_
    rintro e w3 ⟨rfl, hb3⟩
    go_wp2_with (fail)
    refine (CM.out _ (tab_ext hT ((hb1.tr hb2).tr hb3))).mono ?_
    rintro e w4 hF
    obtain ⟨A5, c5, rfl, h1, h2, h3⟩ := freshI_old hF ((hb1.tr hb2).tr hb3)
    go_wp2
    go_ret
    exact ⟨A5, c5, rfl, h1, h2, h3⟩
  · have hix : ∀ W, Sem.run Tryd.prog (Instr.index 44 (.agg #[.int .u64 ((G 0 : Nat) : Int), .int .u64 ((G 1 : Nat) : Int), .int .u64 ((G 2 : Nat) : Int), .int .u64 ((G 3 : Nat) : Int), .int .u64 ((G 4 : Nat) : Int), .int .u64 ((G 5 : Nat) : Int)]) (.int .i64 5)) W = .ok (.int .u64 ((G 5 : Nat) : Int)) W := fun W => by kernel_rfl
    go_enter Tryd.func6, Tryd.ntmps6
    go_wp2_with (fail)
    go_at_call 17
    refine (CV.out _ (hx.ext (by (repeat' (first | (with_reducible exact Below.refl _ _) | (with_reducible refine Below.mono (by assumption) ?_) | (with_reducible refine Below.trans ?_ (Below.mono (by assumption) ?_)) | (with_reducible refine Below.alloc ?_ ?_ _) | (with_reducible refine Below.drew ?_) | (with_reducible refine below_drewN ?_ _) | (with_reducible refine Below.setCell ?_ ?_ _) | (simp only [World.size_alloc, World.size_setCell, World.size_drew, size_drewN]; omega) | omega))))).mono ?_
    rintro e w1 ⟨rfl, hb1⟩
    go_wp2_with (fail)
    refine (CK.out _).mono ?_
    rintro e w' ⟨rfl, rfl⟩
    go_wp2_with (fail)
    go_at_call 20
    refine (CA.out _ (hx.ext hb1)).mono ?_
    rintro e w2 ⟨rfl, hb2⟩
    go_wp2_with (fail)
    refine (CR.out _).mono ?_
    rintro e w3 ⟨rfl, hb3⟩
    go_wp2_with (fail)
    refine (CM.out _ (tab_ext hT ((hb1.tr hb2).tr hb3))).mono ?_
    rintro e w4 hF
    obtain ⟨A5, c5, rfl, h1, h2, h3⟩ := freshI_old hF ((hb1.tr hb2).tr hb3)
    go_wp2
    go_ret
    exact ⟨A5, c5, rfl, h1, h2, h3⟩
theorem implReachFrom_c (many : Int) (L : List T3) (fr : Int) (S : Nat → Prop) (A : Option Addr) (c : Nat) (w : World) (hx : Ops S w A L) (hn : L.length ≤ 1048576) (hT : TabAt (Tryd.lays727_ren.g 1) Lib.deBruijn64tab w) :
    Calls Tryd.prog 6 #[.int .i64 many, .slice A L.length c, .int .i64 fr] w (FreshI (rchV many L fr) w) := by
  unfold rchV
  by_cases h : edgesValid many L = true ∧ inB fr 0 (many - 1) = true
  · rw [if_pos h]
    have hv := h.1
    obtain ⟨m, rfl, hm6, hl, hval⟩ := edgesValid_iff hv
    have hb := h.2
    simp only [inB, Bool.and_eq_true, decide_eq_true_eq] at hb
    obtain ⟨f, rfl⟩ := Int.eq_ofNat_of_zero_le hb.1
    rw [Int.toNat_natCast]
    exact implReachFrom_ok m f L S A c w hx hl hm6 (by omega) hval hv hT
  · rw [if_neg h]
    have C := fun w hx => implEdgesValid_c many L S A c w hx hn
    have CK := fun w => within_c fr 0 (wrap64 (many - 1)) w
    cases hv : edgesValid many L with
    | false =>
      rw [hv] at C
      have C := Lib.hid C
      clear h hv CK hT
      go_enter Tryd.func6, Tryd.ntmps6
      go_wp2_with (fail)
      go_at_call 17
      refine (C.out _ (hx.ext (by (repeat' (first | (with_reducible exact Below.refl _ _) | (with_reducible refine Below.mono (by assumption) ?_) | (with_reducible refine Below.trans ?_ (Below.mono (by assumption) ?_)) | (with_reducible refine Below.alloc ?_ ?_ _) | (with_reducible refine Below.drew ?_) | (with_reducible refine below_drewN ?_ _) | (with_reducible refine Below.setCell ?_ ?_ _) | (simp only [World.size_alloc, World.size_setCell, World.size_drew, size_drewN]; omega) | omega))))).mono ?_
      rintro e w1 ⟨rfl, hb⟩
      obtain ⟨hc, hf, hz, hs⟩ := bcell hb
      (try simp only [World.size_alloc, World.size_setCell, World.size_drew, size_drewN] at hs); (first | have l0 := Nat.lt_of_lt_of_le l0 (show _ ≤ w1.heap.size by omega) | have l0 : w.heap.size < w1.heap.size := (by omega) | skip); (try have l0e := Nat.le_of_lt l0); (try have l0f := Nat.le_add_right_of_le (k := 1) l0e); (try have l1 := Nat.lt_of_lt_of_le l1 (show _ ≤ w1.heap.size by omega)); (try have l1e := Nat.le_of_lt l1); (try have l1f := Nat.le_add_right_of_le (k := 1) l1e); (try have l2 := Nat.lt_of_lt_of_le l2 (show _ ≤ w1.heap.size by omega)); (try have l2e := Nat.le_of_lt l2); (try have l2f := Nat.le_add_right_of_le (k := 1) l2e); (try have l3 := Nat.lt_of_lt_of_le l3 (show _ ≤ w1.heap.size by omega)); (try have l3e := Nat.le_of_lt l3); (try have l3f := Nat.le_add_right_of_le (k := 1) l3e)
      go_wp2
      go_ret
      exact freshI_nil _ _ (by (repeat' (first | (with_reducible exact Below.refl _ _) | (with_reducible refine Below.mono (by assumption) ?_) | (with_reducible refine Below.trans ?_ (Below.mono (by assumption) ?_)) | (with_reducible refine Below.alloc ?_ ?_ _) | (with_reducible refine Below.drew ?_) | (with_reducible refine below_drewN ?_ _) | (with_reducible refine Below.setCell ?_ ?_ _) | (simp only [World.size_alloc, World.size_setCell, World.size_drew, size_drewN]; omega) | omega)))
    | true =>
      rw [hv] at C
      have C := Lib.hid C
      obtain ⟨m, rfl, hm6, hl, hval⟩ := edgesValid_iff hv
      have hw : wrap64 ((m : Int) - 1) = (m : Int) - 1 := by unfold wrap64; omega
      have hbf : inB fr 0 ((m : Int) - 1) = false := by
        cases hb : inB fr 0 ((m : Int) - 1) with
        | false => rfl
        | true => exact absurd ⟨hv, hb⟩ h
      rw [hw, hbf] at CK
      have CK := Lib.hid CK
      clear h hv hbf hT
      go_enter Tryd.func6, Tryd.ntmps6
      go_wp2_with (fail)
      go_at_call 17
      refine (C.out _ (hx.ext (by (repeat' (first | (with_reducible exact Below.refl _ _) | (with_reducible refine Below.mono (by assumption) ?_) | (with_reducible refine Below.trans ?_ (Below.mono (by assumption) ?_)) | (with_reducible refine Below.alloc ?_ ?_ _) | (with_reducible refine Below.drew ?_) | (with_reducible refine below_drewN ?_ _) | (with_reducible refine Below.setCell ?_ ?_ _) | (simp only [World.size_alloc, World.size_setCell, World.size_drew, size_drewN]; omega) | omega))))).mono ?_
      rintro e w1 ⟨rfl, hb⟩
      obtain ⟨hc, hf, hz, hs⟩ := bcell hb
      (try simp only [World.size_alloc, World.size_setCell, World.size_drew, size_drewN] at hs); (first | have l0 := Nat.lt_of_lt_of_le l0 (show _ ≤ w1.heap.size by omega) | have l0 : w.heap.size < w1.heap.size := (by omega) | skip); (try have l0e := Nat.le_of_lt l0); (try have l0f := Nat.le_add_right_of_le (k := 1) l0e); (try have l1 := Nat.lt_of_lt_of_le l1 (show _ ≤ w1.heap.size by omega)); (try have l1e := Nat.le_of_lt l1); (try have l1f := Nat.le_add_right_of_le (k := 1) l1e); (try have l2 := Nat.lt_of_lt_of_le l2 (show _ ≤ w1.heap.size by omega)); (try have l2e := Nat.le_of_lt l2); (try have l2f := Nat.le_add_right_of_le (k := 1) l2e); (try have l3 := Nat.lt_of_lt_of_le l3 (show _ ≤ w1.heap.size by omega)); (try have l3e := Nat.le_of_lt l3); (try have l3f := Nat.le_add_right_of_le (k := 1) l3e)
      go_wp2_with (fail)
      refine (CK.out _).mono ?_
      rintro e w' ⟨rfl, rfl⟩
      go_wp2
      go_ret
      exact freshI_nil _ _ (by (repeat' (first | (with_reducible exact Below.refl _ _) | (with_reducible refine Below.mono (by assumption) ?_) | (with_reducible refine Below.trans ?_ (Below.mono (by assumption) ?_)) | (with_reducible refine Below.alloc ?_ ?_ _) | (with_reducible refine Below.drew ?_) | (with_reducible refine below_drewN ?_ _) | (with_reducible refine Below.setCell ?_ ?_ _) | (simp only [World.size_alloc, World.size_setCell, World.size_drew, size_drewN]; omega) | omega)))
end Go.Proofs.YtbglkjmoednapaaDoor
