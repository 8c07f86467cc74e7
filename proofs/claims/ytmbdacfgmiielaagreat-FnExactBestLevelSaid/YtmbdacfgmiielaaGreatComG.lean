/-
  slices.Compact of edges of a call's own, in place; edges sorted, each once, for edges that may come twice.
-/
import Derived.Test.YtmbdacfgmiielaaGreatGPut46
import Derived.Lib.SliceRun
namespace Go.Proofs.YtmbdacfgmiielaaGreat
set_option linter.unusedSimpArgs false
set_option linter.unusedVariables false
set_option maxRecDepth 100000
open Go.RowKit

theorem size_setCells (b : Nat) : ∀ (vs : List Value) (o : Nat) (w : World), (w.setCells b o vs).heap.size = w.heap.size
  | [], _, _ => rfl
  | v :: vs, o, w => by
    simp only [World.setCells]
    rw [size_setCells b vs, World.size_setCell]
theorem below_setCells {base b : Nat} {w0 : World} : ∀ (vs : List Value) (o : Nat) (w : World), Below base w0 w → base ≤ b → Below base w0 (w.setCells b o vs)
  | [], _, _, h, _ => h
  | v :: vs, o, w, h, hb => by
    simp only [World.setCells]
    exact below_setCells vs (o + 1) _ (Below.setCell (p := ⟨b, o, none⟩) h hb v) hb
theorem EB.isCell {w : World} {g : Nat} {ds : List T3} (h : EB w g ds) {i : Nat} (hi : i < ds.length * 3) : (w.cell? ⟨g, i, none⟩).isSome = true := by
  obtain ⟨cs, h, ht⟩ := h
  have h1 : (cs.toList.take (ds.length * 3)).length = ds.length * 3 := by rw [ht, flat3_len]
  rw [List.length_take] at h1
  rw [cell_of_row w g _ cs _ (0, 0) h, Array.getElem?_eq_getElem (by simp at h1; omega)]
  rfl
theorem neEd_run (a b c a' b' c' : Int) (w : World) : (binOp .neq 76 (.agg #[.int .i64 a, .int .i64 b, .int .i64 c]) (.agg #[.int .i64 a', .int .i64 b', .int .i64 c'])).run Tryz.prog w = .ok (.bool (!decide ((⟨a, b, c⟩ : T3) = ⟨a', b', c'⟩))) w := by
  have u3 := Tryz.underlying3
  have hS : Tryz.prog.underlying 76 = some (.struct (Tryz.prog.fieldsOf 76)) := by kernel_rfl
  have hp : Tryz.prog.stoodInHeld 76 = false := by kernel_rfl
  rw [run_neq_struct, show (10000 : Nat) = 9999 + 1 from rfl, run_equalIn_agg w 9999 76 _ _ hS hp]
  simp only [Program.fieldsOf, Tryz.underlying76]
  go_simp
  by_cases h1 : a = a' <;> by_cases h2 : b = b' <;> by_cases h3 : c = c' <;> simp [h1, h2, h3]
theorem run_clear3 (w : World) (ty : TypeId) (b o n c : Nat) (hn : 0 < n) (hc : ∀ j, j < n * 3 → (w.cell? ⟨b, o + j, none⟩).isSome = true) (hf : ∀ j, j < n * 3 → w.frozen? ⟨b, o + j, none⟩ = false) :
    (Builtin.clear_ #[55] ty #[.slice (some ⟨b, o, none⟩) n c]).run Tryz.prog w = .ok (.tuple #[]) (w.setCells b o (List.replicate (n * 3) (.int .i64 0))) := by
  have hzc : (Builtin.zeroCells (Value.agg #[.int .i64 0, .int .i64 0, .int .i64 0]).cells n).toList = List.replicate (n * 3) (Value.int .i64 0) := by
    simp only [Value.cells, Builtin.zeroCells]
    apply List.ext_getElem
    · simp
    · intro i h1 h2
      have : i % 3 < 3 := Nat.mod_lt _ (by omega)
      simp
      obtain h | h | h : i % 3 = 0 ∨ i % 3 = 1 ∨ i % 3 = 2 := by omega
      all_goals simp [h]
  have hst := run_storeCells_cells (P := Tryz.prog) b o (List.replicate (n * 3) (Value.int .i64 0)) 0 w (by simpa using hc) (by simpa using hf) (by intro v hv'; rw [List.eq_of_mem_replicate hv']; rfl)
  simp only [Nat.add_zero] at hst
  obtain ⟨m, rfl⟩ : ∃ m, n = m + 1 := ⟨n - 1, by omega⟩
  simp [Builtin.clear_, run_underlying Tryz.underlying55, Tryz.zeroValue76, hzc, hst]

set_option maxHeartbeats 4000000 in
/-- the first edges of runs, in the slice's own cells -/
theorem compactG_c (ys : List T3) (base g cap : Nat) (w : World) (hB : EB w g ys) (hbg : base ≤ g) (hb0 : base ≤ w.heap.size) (hl : ys.length ≤ 1048576) (hcap : ys.length ≤ cap) :
    Calls Tryz.prog 83 #[.slice (some ⟨g, 0, none⟩) ys.length cap] w fun e w' => e = .returned (.slice (some ⟨g, 0, none⟩) (uqTo ys ys.length).length cap) ∧ Ops (fun b => base ≤ b) w' (some ⟨g, 0, none⟩) (uqTo ys ys.length) ∧ (∀ o, w'.frozen? ⟨g, o, none⟩ = false) ∧ Below base w w' := by
  have heq := eqEd_run
  have hgd := eqEd_guard
  have hne := neEd_run
  have HB := Lib.hid hB
  have hgl := hB.lt
  clear hB
  by_cases h2 : ys.length < 2
  · have e : uqTo ys ys.length = ys := by
      cases ys with
      | nil => rfl
      | cons y ys => cases ys with
        | nil => rfl
        | cons z zs => simp at h2; omega
    rw [e]
    go_enter Tryz.func83, Tryz.ntmps83
    go_wp2
    go_ret
    exact ⟨rfl, HB.out.ops hbg, HB.out.frozen, Below.refl _ _⟩
  go_enter Tryz.func83, Tryz.ntmps83
  go_wp2
  go_loopw [3] (fun i wr => ∃ k : Nat, 1 ≤ k ∧ k ≤ ys.length ∧ i = .int .i64 k ∧ uqTo ys k = ys.take k ∧ Ext w wr) (fun i _ => ys.length - (intOf i).toNat)
  case atStart => exact ⟨1, Nat.le_refl _, by omega, rfl, uq_one (by omega), by (repeat' (first | (with_reducible exact Below.refl _ _) | (with_reducible refine Below.mono (by assumption) ?_) | (with_reducible refine Below.trans ?_ (Below.mono (by assumption) ?_)) | (with_reducible refine Below.alloc ?_ ?_ _) | (with_reducible refine Below.drew ?_) | (with_reducible refine below_drewN ?_ _) | (with_reducible refine Below.setCell ?_ ?_ _) | (simp only [World.size_alloc, World.size_setCell, World.size_drew, size_drewN]; omega) | omega))⟩
  case round =>
    obtain ⟨k, hk1, hk, rfl, hu, hE⟩ := hrel
    have HU := Lib.hid hu
    clear hu
    have HB1 := Lib.hid (HB.out.ext hE)
    have hgl1 := HB1.out.lt
    by_cases hlt : k < ys.length
    · obtain ⟨k, rfl⟩ : ∃ m, k = m + 1 := ⟨k - 1, by omega⟩
      obtain ⟨x0, x1, x2, b, off, hxk, e1, rfl, hb1, c0, c1, c2⟩ := (HB1.out.ops (S := fun b => g = b) rfl).at_ hlt
      obtain ⟨y0, y1, y2, b', off', hyk, e2, rfl, hb1', d0, d1, d2⟩ := (HB1.out.ops (S := fun b => g = b) rfl).at_ (i := k) (by omega)
      simp only [Option.some.injEq, Addr.mk.injEq, true_and] at e1 e2
      obtain ⟨rfl, _⟩ := e1
      obtain ⟨rfl, _⟩ := e2
      simp only [Nat.zero_add] at c0 c1 c2 d0 d1 d2
      have hsub : ((k + 1 : Nat) : Int) - 1 = (k : Int) := by omega
      have hi : ((k + 1 : Nat) : Int) = (k : Int) + 1 := by omega
      by_cases he : (⟨x0, x1, x2⟩ : T3) = ⟨y0, y1, y2⟩
      · have hdup := uq_dup hxk (by rw [hyk, he])
        simp only [T3.mk.injEq] at he
        obtain ⟨rfl, rfl, rfl⟩ := he
        have HDup := Lib.hid hdup
        clear hdup hxk hyk
        go_upto_region 6 with (fail)
        go_quiet (fail)
        go_wp2
        go_loopw [3, 5] (fun i j W => ∃ (p : Nat) (ds : List T3), k + 2 + p ≤ ys.length ∧ j = .int .i64 ((p + 1 : Nat) : Int) ∧ i = .int .i64 (uqTo ys (k + 2 + p)).length ∧ (uqTo ys (k + 2 + p)).length < k + 2 + p ∧ EB W g ds ∧ ds.length = ys.length ∧ (∀ q, k + 1 + p ≤ q → ds[q]? = ys[q]?) ∧ ds.take (uqTo ys (k + 2 + p)).length = uqTo ys (k + 2 + p) ∧ Below base w W) (fun _ j _ => ys.length - (intOf j).toNat)
        case atStart =>
          have h1 : (uqTo ys (k + 2)).length = k + 1 := by rw [HDup.out, HU.out, List.length_take]; omega
          exact ⟨0, ys, by omega, rfl, by rw [Nat.add_zero, h1], by rw [Nat.add_zero, h1]; omega, HB1.out.ext (by (repeat' (first | (with_reducible exact Below.refl _ _) | (with_reducible refine Below.mono (by assumption) ?_) | (with_reducible refine Below.trans ?_ (Below.mono (by assumption) ?_)) | (with_reducible refine Below.alloc ?_ ?_ _) | (with_reducible refine Below.drew ?_) | (with_reducible refine below_drewN ?_ _) | (with_reducible refine Below.setCell ?_ ?_ _) | (simp only [World.size_alloc, World.size_setCell, World.size_drew, size_drewN]; omega) | omega))), rfl, fun _ _ => rfl, by rw [Nat.add_zero, h1, HDup.out, HU.out], (hE.mono hb0).trans (by (repeat' (first | (with_reducible exact Below.refl _ _) | (with_reducible refine Below.mono (by assumption) ?_) | (with_reducible refine Below.trans ?_ (Below.mono (by assumption) ?_)) | (with_reducible refine Below.alloc ?_ ?_ _) | (with_reducible refine Below.drew ?_) | (with_reducible refine below_drewN ?_ _) | (with_reducible refine Below.setCell ?_ ?_ _) | (simp only [World.size_alloc, World.size_setCell, World.size_drew, size_drewN]; omega) | omega)))⟩
        case round =>
          obtain ⟨p, ds, hm, rfl, rfl, hkk, hEB, hdl, hhi, hlo, hbw⟩ := hrel
          have HHi := Lib.hid hhi
          have HLo := Lib.hid hlo
          have HBw := Lib.hid hbw
          have HEB := Lib.hid hEB
          have HDl := Lib.hid hdl
          have hgl2 := hEB.lt
          have hsz2 := hbw.size
          by_cases hlt2 : k + 2 + p < ys.length
          · obtain ⟨z0, z1, z2, b, off, hzk, e1, rfl, hb2, g0, g1, g2⟩ := (hEB.ops (S := fun b => g = b) rfl).at_ (i := k + 2 + p) (by omega)
            obtain ⟨v0, v1, v2, b', off', hvk, e2, rfl, hb2', t0, t1, t2⟩ := (hEB.ops (S := fun b => g = b) rfl).at_ (i := k + 1 + p) (by omega)
            simp only [Option.some.injEq, Addr.mk.injEq, true_and] at e1 e2
            obtain ⟨rfl, _⟩ := e1
            obtain ⟨rfl, _⟩ := e2
            simp only [Nat.zero_add] at g0 g1 g2 t0 t1 t2
            rw [hhi _ (by omega)] at hzk hvk
            have ha1 : (k + 2 + p) * 3 = (k + 1) * 3 + (p + 1) * 3 := by omega
            have ha2 : (k + 1 + p) * 3 = (k + 1) * 3 + p * 3 := by omega
            rw [ha1] at g0 g1 g2
            rw [ha2] at t0 t1 t2
            have hsub : ((p + 1 : Nat) : Int) - 1 = (p : Int) := by omega
            have hj : ((p + 1 : Nat) : Int) = (p : Int) + 1 := by omega
            clear hhi hlo hbw hEB hdl
            by_cases he : (⟨z0, z1, z2⟩ : T3) = ⟨v0, v1, v2⟩
            · have hdup := uq_dup (n := k + 1 + p) (by rw [show k + 1 + p + 1 = k + 2 + p by omega]; exact hzk) (by rw [hvk, he])
              rw [show k + 1 + p + 2 = k + 2 + (p + 1) by omega, show k + 1 + p + 1 = k + 2 + p by omega] at hdup
              have HDp := Lib.hid hdup
              simp only [T3.mk.injEq] at he
              obtain ⟨rfl, rfl, rfl⟩ := he
              clear hzk hvk hdup
              go_upto_region 11 with (fail)
              go_quiet (fail)
              go_wp2
              exact ⟨⟨p + 1, ds, by omega, by go_num, by rw [HDp.out], by rw [HDp.out]; omega, HEB.out.ext (by (repeat' (first | (with_reducible exact Below.refl _ _) | (with_reducible refine Below.mono (by assumption) ?_) | (with_reducible refine Below.trans ?_ (Below.mono (by assumption) ?_)) | (with_reducible refine Below.alloc ?_ ?_ _) | (with_reducible refine Below.drew ?_) | (with_reducible refine below_drewN ?_ _) | (with_reducible refine Below.setCell ?_ ?_ _) | (simp only [World.size_alloc, World.size_setCell, World.size_drew, size_drewN]; omega) | omega))), HDl.out, fun q hq => HHi.out q (by omega), by rw [HDp.out]; exact HLo.out, HBw.out.trans (by (repeat' (first | (with_reducible exact Below.refl _ _) | (with_reducible refine Below.mono (by assumption) ?_) | (with_reducible refine Below.trans ?_ (Below.mono (by assumption) ?_)) | (with_reducible refine Below.alloc ?_ ?_ _) | (with_reducible refine Below.drew ?_) | (with_reducible refine below_drewN ?_ _) | (with_reducible refine Below.setCell ?_ ?_ _) | (simp only [World.size_alloc, World.size_setCell, World.size_drew, size_drewN]; omega) | omega)))⟩, by simp [intOf]; omega⟩
            · have hnew := uq_new (n := k + 1 + p) (by rw [show k + 1 + p + 1 = k + 2 + p by omega]; exact hzk) hvk he
              rw [show k + 1 + p + 2 = k + 2 + (p + 1) by omega, show k + 1 + p + 1 = k + 2 + p by omega] at hnew
              have HNw := Lib.hid hnew
              have hd2 : (z0 = v0 ∧ z1 = v1 ∧ z2 = v2) = False := by
                simp only [T3.mk.injEq] at he
                simpa using he
              have hd : decide ((⟨z0, z1, z2⟩ : T3) = ⟨v0, v1, v2⟩) = false := decide_eq_false he
              clear hzk hvk he hnew
              obtain ⟨kk, hkk2⟩ : ∃ kk, (uqTo ys (k + 2 + p)).length = kk := ⟨_, rfl⟩
              rw [hkk2] at hkk
              simp only [hkk2]
              obtain ⟨r0, r1, r2, b3, off3, hrk, e3, rfl, hb3, r0c, r1c, r2c⟩ := (HEB.out.ops (S := fun b => g = b) rfl).at_ (i := kk) (by rw [HDl.out]; omega)
              simp only [Option.some.injEq, Addr.mk.injEq, true_and] at e3
              obtain ⟨rfl, _⟩ := e3
              simp only [Nat.zero_add] at r0c r1c r2c
              have fz := HEB.out.frozen
              have HKk := Lib.hid hkk2
              clear hkk2 hrk
              go_upto_region 11 with (fail)
              go_quiet (fail)
              go_wp2
              refine ⟨⟨p + 1, ds.set kk ⟨z0, z1, z2⟩, by omega, by go_num, ?_, ?_, (HEB.out.ext (by (repeat' (first | (with_reducible exact Below.refl _ _) | (with_reducible refine Below.mono (by assumption) ?_) | (with_reducible refine Below.trans ?_ (Below.mono (by assumption) ?_)) | (with_reducible refine Below.alloc ?_ ?_ _) | (with_reducible refine Below.drew ?_) | (with_reducible refine below_drewN ?_ _) | (with_reducible refine Below.setCell ?_ ?_ _) | (simp only [World.size_alloc, World.size_setCell, World.size_drew, size_drewN]; omega) | omega)))).set_ (by rw [HDl.out]; omega) _ _ _, by rw [List.length_set]; exact HDl.out, fun q hq => by rw [List.getElem?_set_ne (by omega)]; exact HHi.out q (by omega), ?_, HBw.out.trans (by (repeat' (first | (with_reducible exact Below.refl _ _) | (with_reducible refine Below.mono (by assumption) ?_) | (with_reducible refine Below.trans ?_ (Below.mono (by assumption) ?_)) | (with_reducible refine Below.alloc ?_ ?_ _) | (with_reducible refine Below.drew ?_) | (with_reducible refine below_drewN ?_ _) | (with_reducible refine Below.setCell ?_ ?_ _) | (simp only [World.size_alloc, World.size_setCell, World.size_drew, size_drewN]; omega) | omega)))⟩, by simp [intOf]; omega⟩
              · rw [HNw.out, List.length_append, HKk.out]
                go_num
              · rw [HNw.out, List.length_append, HKk.out, List.length_singleton]
                omega
              · have hlo := HLo.out
                rw [HKk.out] at hlo
                rw [HNw.out, List.length_append, HKk.out, List.length_singleton, List.take_add_one, List.getElem?_set_self (by rw [HDl.out]; omega), List.take_set, List.set_eq_of_length_le (by rw [List.length_take]; omega), hlo]
                rfl
          · have hmq : k + 2 + p = ys.length := by omega
            have HLen := Lib.hid hmq
            obtain ⟨kk, hkk2⟩ : ∃ kk, (uqTo ys (k + 2 + p)).length = kk := ⟨_, rfl⟩
            have h1 : kk < ys.length := by omega
            have h2' : (kk : Int) ≤ ys.length := by omega
            have hcl : ∀ ty, (Builtin.clear_ #[55] ty #[.slice (some ⟨g, kk * 3, none⟩) (ys.length - kk) (cap - kk)]).run Tryz.prog wr = .ok (.tuple #[]) (wr.setCells g (kk * 3) (List.replicate ((ys.length - kk) * 3) (.int .i64 0))) :=
              fun ty => run_clear3 wr ty g (kk * 3) (ys.length - kk) (cap - kk) (by omega) (fun j hj => HEB.out.isCell (by rw [HDl.out]; omega)) (fun j _ => HEB.out.frozen _)
            have hfin : Ops (fun b => base ≤ b) (wr.setCells g (kk * 3) (List.replicate ((ys.length - kk) * 3) (.int .i64 0))) (some ⟨g, 0, none⟩) (uqTo ys (k + 2 + p)) := by
              have h3 := (HEB.out.ops (S := fun b => base ≤ b) hbg)
              intro i x hx
              have hi : i < kk := by rw [← hkk2]; exact (List.getElem?_eq_some_iff.1 hx).1
              rw [← hlo, hkk2, List.getElem?_take_of_lt hi] at hx
              obtain ⟨b, off, us, e, hS, hbl, hl9, hr, hcc⟩ := h3 i x hx
              refine ⟨b, off, us, e, hS, by rw [size_setCells]; exact hbl, hl9, hr, fun j u hu => ?_⟩
              have hj : j < 3 := by rw [← hl9]; exact (List.getElem?_eq_some_iff.1 hu).1
              cases e
              rw [World.cell?_setCells_out]
              · exact hcc j u hu
              · intro _ _
                left
                simp only [Nat.zero_add]
                omega
            have hfz : ∀ o, (wr.setCells g (kk * 3) (List.replicate ((ys.length - kk) * 3) (.int .i64 0))).frozen? ⟨g, o, none⟩ = false := fun o => by rw [World.frozen?_setCells]; exact HEB.out.frozen o
            have hbl := below_setCells (List.replicate ((ys.length - kk) * 3) (.int .i64 0)) (kk * 3) wr hbw hbg
            have HFin := Lib.hid (show _ ∧ _ ∧ _ from ⟨hfin, hfz, hbl⟩)
            rw [hkk2]
            have HKk := Lib.hid hkk2
            clear hfin hfz hbl hhi hlo hbw hEB hdl hkk2 hmq
            go_wp2
            go_ret
            rw [HLen.out] at HFin HKk
            exact ⟨by rw [HKk.out]; rfl, HFin.out.1, HFin.out.2.1, HFin.out.2.2⟩
      · have hnew := uq_new hxk hyk he
        have HNew := Lib.hid (show uqTo ys (k + 2) = ys.take (k + 2) from by
          rw [hnew, HU.out, List.take_add_one (i := k + 1), hxk]
          rfl)
        have hd2 : (x0 = y0 ∧ x1 = y1 ∧ x2 = y2) = False := by
          simp only [T3.mk.injEq] at he
          simpa using he
        have hd : decide ((⟨x0, x1, x2⟩ : T3) = ⟨y0, y1, y2⟩) = false := decide_eq_false he
        clear hxk hyk he hnew
        go_upto_region 6 with (fail)
        go_quiet (fail)
        go_wp2
        exact ⟨⟨k + 2, by omega, by omega, by go_num, HNew.out, hE.tr (by (repeat' (first | (with_reducible exact Below.refl _ _) | (with_reducible refine Below.mono (by assumption) ?_) | (with_reducible refine Below.trans ?_ (Below.mono (by assumption) ?_)) | (with_reducible refine Below.alloc ?_ ?_ _) | (with_reducible refine Below.drew ?_) | (with_reducible refine below_drewN ?_ _) | (with_reducible refine Below.setCell ?_ ?_ _) | (simp only [World.size_alloc, World.size_setCell, World.size_drew, size_drewN]; omega) | omega)))⟩, by simp [intOf]; omega⟩
    · obtain rfl : k = ys.length := by omega
      have e : uqTo ys ys.length = ys := by rw [HU.out, List.take_length]
      have HEq := Lib.hid e
      clear e
      go_wp2
      go_ret
      rw [HEq.out]
      exact ⟨rfl, HB1.out.ops hbg, HB1.out.frozen, hE.mono hb0⟩
theorem EB.top {w : World} {base : Nat} {v : Value} {ds : List T3} (h : Own3 w base 76 v ds) (hv : ∃ g, v.ownBlock = some g) : ∃ g cap, v = .slice (some ⟨g, 0, none⟩) ds.length cap ∧ base ≤ g ∧ ds.length ≤ cap ∧ EB w g ds := by
  rcases h.2 with ⟨rfl, hz⟩ | ⟨gb, cap, cur, rfl, hbase, hgb, r1, r2, r3, r4⟩
  · obtain ⟨g, hg⟩ := hv
    simp [Value.ownBlock] at hg
  · exact ⟨gb, cap, rfl, hbase, by omega, cur, hgb, r4⟩
/-- a call's own edges, sorted, each once -/
def SortedG (xs : List T3) (base : Nat) (w : World) (e : Ending) (w' : World) : Prop :=
  ∃ ys A c, ys.Pairwise ltE ∧ (∀ x, x ∈ ys ↔ x ∈ xs) ∧ ys.length ≤ xs.length ∧ e = .returned (.slice A ys.length c) ∧ Ops (fun b => base ≤ b) w' A ys ∧ (∀ a, A = some a → base ≤ a.block ∧ a.block < w'.heap.size ∧ ∀ o, w'.frozen? ⟨a.block, o, none⟩ = false) ∧ Below base w w'
set_option maxHeartbeats 2000000 in
theorem sortedG_c (xs : List T3) (base : Nat) (v : Value) (w : World) (h : Own3 w base 76 v xs) (hv : ∃ g, v.ownBlock = some g) (hb0 : base ≤ w.heap.size) (hl : xs.length ≤ 1048576) :
    Calls Tryz.prog 54 #[v] w (SortedG xs base w) := by
  have CF := fun w h hb => sortFunc_c xs base v w h hv hb hl
  have CF := Lib.hid CF
  have HV := Lib.hid hv
  clear hv
  go_enter Tryz.func54, Tryz.ntmps54
  go_wp2_with (fail)
  go_at_call 80
  refine (CF.out _ (h.ext (by (repeat' (first | (with_reducible exact Below.refl _ _) | (with_reducible refine Below.mono (by assumption) ?_) | (with_reducible refine Below.trans ?_ (Below.mono (by assumption) ?_)) | (with_reducible refine Below.alloc ?_ ?_ _) | (with_reducible refine Below.drew ?_) | (with_reducible refine below_drewN ?_ _) | (with_reducible refine Below.setCell ?_ ?_ _) | (simp only [World.size_alloc, World.size_setCell, World.size_drew, size_drewN]; omega) | omega)))) (by first | omega | (simp; omega))).mono ?_
  rintro e w1 ⟨rfl, ys, hp, hpw, hO, hB⟩
  obtain ⟨g, cap, rfl, hbg, hcap, hEB⟩ := EB.top hO HV.out
  have hly := hp.length_eq
  have hly2 : ys.length ≤ 1048576 := by omega
  have hsz := hB.size
  try simp only [World.size_alloc, World.size_drew, size_drewN] at hsz
  have HB := Lib.hid (show Below base w w1 from by first | exact hB | exact Below.trans (by (repeat' (first | (with_reducible exact Below.refl _ _) | (with_reducible refine Below.mono (by assumption) ?_) | (with_reducible refine Below.trans ?_ (Below.mono (by assumption) ?_)) | (with_reducible refine Below.alloc ?_ ?_ _) | (with_reducible refine Below.drew ?_) | (with_reducible refine below_drewN ?_ _) | (with_reducible refine Below.setCell ?_ ?_ _) | (simp only [World.size_alloc, World.size_setCell, World.size_drew, size_drewN]; omega) | omega))) hB)
  have hu := uq_len ys ys.length
  have hul : (uqTo ys ys.length).length ≤ xs.length := by omega
  have hm : ∀ x, x ∈ uqTo ys ys.length ↔ x ∈ xs := fun x => by
    rw [uq_mem (Nat.le_refl _), List.take_length]
    exact hp.mem_iff
  have hq := uq_pw hpw (Nat.le_refl _)
  have CC := fun w hx hb => compactG_c ys base g cap w hx hbg hb hly2 hcap
  have hle : (uqTo ys ys.length).length ≤ cap := by omega
  generalize uqTo ys ys.length = zs at hu hul hm hq CC hle
  have CC := Lib.hid CC
  have HM := Lib.hid hm
  have HQ := Lib.hid hq
  have HEB := Lib.hid hEB
  clear hm hq hEB hp hpw hO hB h CF HV hly
  go_wp2_with (fail)
  go_at_call 83
  refine (CC.out _ (HEB.out.ext (by (repeat' (first | (with_reducible exact Below.refl _ _) | (with_reducible refine Below.mono (by assumption) ?_) | (with_reducible refine Below.trans ?_ (Below.mono (by assumption) ?_)) | (with_reducible refine Below.alloc ?_ ?_ _) | (with_reducible refine Below.drew ?_) | (with_reducible refine below_drewN ?_ _) | (with_reducible refine Below.setCell ?_ ?_ _) | (simp only [World.size_alloc, World.size_setCell, World.size_drew, size_drewN]; omega) | omega)))) (by first | omega | (simp; omega))).mono ?_
  rintro e w2 ⟨rfl, hO2, hf2, hB2⟩
  have HF := Lib.hid (show _ ∧ _ ∧ _ from ⟨hO2, hf2, HB.out.trans (show Below base w1 w2 from by first | exact hB2 | exact Below.trans (by (repeat' (first | (with_reducible exact Below.refl _ _) | (with_reducible refine Below.mono (by assumption) ?_) | (with_reducible refine Below.trans ?_ (Below.mono (by assumption) ?_)) | (with_reducible refine Below.alloc ?_ ?_ _) | (with_reducible refine Below.drew ?_) | (with_reducible refine below_drewN ?_ _) | (with_reducible refine Below.setCell ?_ ?_ _) | (simp only [World.size_alloc, World.size_setCell, World.size_drew, size_drewN]; omega) | omega))) hB2)⟩)
  have hgl : g < w2.heap.size := by
    have := HEB.out.lt
    have := hB2.size
    omega
  clear hO2 hf2 hB2
  go_wp2_with (fail)
  go_at_call 82
  refine (clipE_c _ _ _ _ hle).mono ?_
  rintro e w3 ⟨rfl, rfl⟩
  go_wp2
  go_ret
  exact ⟨zs, _, _, HQ.out, HM.out, hul, rfl, HF.out.1, (fun a ha => by cases ha; exact ⟨hbg, hgl, HF.out.2.1⟩), HF.out.2.2⟩
end Go.Proofs.YtmbdacfgmiielaaGreat
