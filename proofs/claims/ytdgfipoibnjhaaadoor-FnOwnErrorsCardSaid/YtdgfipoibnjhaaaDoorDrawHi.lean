/-
  The walk of the drawn history.
-/
import Derived.Test.YtdgfipoibnjhaaaDoorDrawHk
import Derived.Deep.CutRange
import Derived.Deep.DeepCutAuto
namespace Go.Proofs.YtdgfipoibnjhaaaDoor
set_option linter.unusedSimpArgs false
set_option linter.unusedVariables false
set_option maxRecDepth 100000
open Go.RowKit

theorem Own1.lit (w : World) {base : Nat} {e : TypeId} (xs : List Int) (hb : base ≤ w.heap.size) (hl : xs.length ≤ 1048576) : Own1 (w.alloc (.cells (flat1 xs).toArray e)) base e (.slice (some ⟨w.heap.size, 0, none⟩) xs.length xs.length) xs := by
  unfold Own1
  refine ⟨by simp [flat1], .inr ⟨w.heap.size, xs.length, (flat1 xs).toArray, rfl, hb, heap_alloc_new w _, Nat.le_refl _, by unfold maxLen; omega, by simp [flat1], ?_⟩⟩
  rw [List.take_of_length_le (by simp [flat1])]
theorem OwnT.made0 (w : World) {B lim : Nat} (hb : B ≤ w.heap.size) : OwnT (w.alloc (.cells #[] 32)) B lim (.slice (some ⟨w.heap.size, 0, none⟩) 0 0) [] :=
  ⟨⟨rfl, .inr ⟨w.heap.size, 0, #[], rfl, hb, heap_alloc_new w _, Nat.le_refl _, by unfold maxLen; omega, rfl, rfl⟩⟩, fun p hp => by cases hp⟩

theorem own1_cut {w : World} {base : Nat} {e : TypeId} {v : Value} {xs : List Int} (h : Own1 w base e v xs) : ∃ A c, v = .slice A xs.length c ∧ xs.length ≤ c ∧ c ≤ maxLen ∧ (A = none → xs.length = 0 ∧ c = 0) ∧ ∀ a, A = some a → ∃ g, a = ⟨g, 0, none⟩ := by
  rcases h.2 with ⟨rfl, hn⟩ | ⟨g, cap, cur, rfl, hb, hg, hle, hm, hs, ht⟩
  · exact ⟨none, 0, by rw [hn], by omega, by omega, fun _ => ⟨hn, rfl⟩, fun a ha => by cases ha⟩
  · exact ⟨_, cap, rfl, hle, hm, (fun h => by cases h), fun a ha => by cases ha; exact ⟨g, rfl⟩⟩
theorem flat1_one (ys : List Int) : ∀ u ∈ flat1 ys, u.oneCell' = true := by
  intro u hu
  simp only [flat1, List.mem_map] at hu
  obtain ⟨x, _, rfl⟩ := hu
  rfl
/-- append of a whole slice of ints -/
theorem wpList_append1s {P : Program} (w : World) {ops : Array Oper} {rest : List Oper} {o : Oper} {a : Act} {Q : Exit → Act → World → Prop} (hgd : o.guard = none) (s x : Operand) (t : TypeId)
    (ho : o.op = .call { callee := .builtin .append, args := #[s, x], argTypes := #[t, t] })
    (base : Nat) (e : TypeId) {z : Value} (ht : P.underlying t = some (.slice e)) (hinfo : (P.info? e).map (fun i => (i.zero, i.size, i.bytes)) = some (some z, 1, 8)) (hzs : z.cells.size = 1)
    (v : Value) (xs : List Int) (hs : a.eval s = v) (hown : Own1 w base e v xs)
    (u : Value) (base2 : Nat) (ys : List Int) (hx : a.eval x = u) (hu : Own1 w base2 e u ys)
    (hn : xs.length + ys.length ≤ 4194304) (hy0 : 0 < ys.length) (hbase : base ≤ w.heap.size)
    (h : ∀ v' w', Own1 w' base e v' (xs ++ ys) → w.grownBy w' v.ownBlock → wpList P ops Q rest (a.put o.dst v') w') : wpList P ops Q (o :: rest) a w := by
  obtain ⟨i0, hi, hz0, hz1, hz2⟩ := info_parts hinfo
  obtain ⟨A, c, hv, hP, hf⟩ := hu.form
  rcases hu.2 with ⟨rfl, hn0⟩ | ⟨g, cap, cur, rfl, _⟩
  · obtain rfl : ys = [] := List.eq_nil_of_length_eq_zero hn0
    simp at hy0
  · cases hv
    refine wpList_append_own w hgd s x t ho base e i0 z 1 8 ht hi hz0 hz1 hz2 hzs (by decide) v xs.length (flat1 xs) hs hown ⟨g, 0, none⟩ ys.length _ (flat1 ys) hx (by simp [flat1]) ?_ (flat1_one ys) (by unfold maxLen; omega) (by omega) hbase ?_
    · intro n u hu'
      simp only [flat1, List.getElem?_map] at hu'
      cases hy : ys[n]? with
      | none => rw [hy] at hu'; cases hu'
      | some y =>
        rw [hy] at hu'
        cases hu'
        obtain ⟨b', off', us, e, _, _, _, hr, hc⟩ := hP n y hy
        cases e
        cases hr
        have := hc 0 _ rfl
        rw [← this]
        congr 1
        cases n <;> simp [Addr.add]
    · intro v' w' h1 h2 _
      refine h v' w' ?_ h2
      unfold Own1
      rw [show flat1 (xs ++ ys) = flat1 xs ++ flat1 ys by simp [flat1], List.length_append]
      exact h1
theorem infoIntD : (Tryd.prog.info? 3).map (fun i => (i.zero, i.size, i.bytes)) = some (some (.int .i64 0), 1, 8) := by kernel_rfl
theorem infoTxnD : (Tryd.prog.info? 32).map (fun i => (i.zero, i.size, i.bytes)) = some (some (.agg #[.int .i64 0, .slice none 0 0, .bool false]), 3, 40) := by kernel_rfl
theorem mk3 (W : World) : (Instr.makeSlice 41 (.int .i64 3) (.int .i64 3)).run Tryd.prog W = .ok (.slice (some ⟨W.heap.size, 0, none⟩) 3 3) (W.alloc (.cells #[.int .i64 0, .int .i64 0, .int .i64 0] 3)) := by
  obtain ⟨i0, hi, hz0, hz1, hz2⟩ := info_parts infoIntD
  have h := run_make_rowN (P := Tryd.prog) 41 3 i0 _ Tryd.underlying41 hi hz0 .i64 .i64 3 3 (by omega) (by rw [hz2]; omega) (by omega) W
  rw [hz1, show madeCells (Value.int IntKind.i64 0).cells (3 * 1) = #[.int .i64 0, .int .i64 0, .int .i64 0] from by kernel_rfl] at h
  exact h
theorem mk7 (W : World) : (Instr.makeSlice 23 (.int .i64 7) (.int .i64 7)).run Tryd.prog W = .ok (.slice (some ⟨W.heap.size, 0, none⟩) 7 7) (W.alloc (.cells (flatP (List.replicate 7 zeroT)).toArray 32)) := by
  obtain ⟨i0, hi, hz0, hz1, hz2⟩ := info_parts infoTxnD
  have h := run_make_rowN (P := Tryd.prog) 23 32 i0 _ Tryd.underlying23 hi hz0 .i64 .i64 7 7 (by omega) (by rw [hz2]; omega) (by omega) W
  rw [hz1, show madeCells (Value.agg #[.int .i64 0, .slice none 0 0, .bool false]).cells (7 * 3) = (flatP (List.replicate 7 zeroT)).toArray from by kernel_rfl] at h
  exact h

/-- what a drawn history is -/
def DrawnH (r P : Nat) (w : World) (e : Ending) (w' : World) : Prop := ∃ (ps : List PT) (lim : Nat) (vo : Value), e = .returned vo ∧ OwnT w' w.heap.size lim vo ps ∧ ps.length ≤ 8 ∧ (∀ p ∈ ps, p.small) ∧ RdrB w' r (P + 300) ∧ w.grownBy w' (some r)
/-- what stands at the head of the outer loop, with k rounds to come -/
def HeadH (r P : Nat) (w : World) (k : Nat) (vo vn vs : Value) (W : World) : Prop :=
  ∃ (ps : List PT) (st : List Int) (nx lim PP g9 c9 : Nat), vn = .int .i64 nx ∧ vs = .slice (some ⟨g9, 0, none⟩) 3 c9 ∧ lim ≤ W.heap.size ∧ ps.length + k ≤ 6 ∧ (∀ p ∈ ps, p.small) ∧ st.length = 3 ∧ (∀ x ∈ st, SmallI x) ∧
    nx + 4 * k ≤ 25 ∧ PP + 40 * k ≤ P + 241 ∧ Keep r lim w vo ps vs st (.slice none 0 0) [] PP W
theorem HeadH.of {r P k lim PP g9 c9 nx : Nat} {w W : World} {vo : Value} {ps : List PT} {st : List Int} (K : Keep r lim w vo ps (.slice (some ⟨g9, 0, none⟩) 3 c9) st (.slice none 0 0) [] PP W) (h1 : lim ≤ W.heap.size) (h2 : ps.length + k ≤ 6) (h3 : ∀ p ∈ ps, p.small) (h4 : st.length = 3) (h5 : ∀ x ∈ st, SmallI x) (h6 : nx + 4 * k ≤ 25) (h7 : PP + 40 * k ≤ P + 241) :
    HeadH r P w k vo (.int .i64 nx) (.slice (some ⟨g9, 0, none⟩) 3 c9) W := ⟨ps, st, nx, lim, PP, g9, c9, rfl, rfl, h1, h2, h3, h4, h5, h6, h7, K⟩
theorem fin_end {r P lim PP g9 c9 : Nat} {w W : World} {vo : Value} {ps : List PT} {st : List Int} (K : Keep r lim w vo ps (.slice (some ⟨g9, 0, none⟩) 3 c9) st (.slice none 0 0) [] PP W) (h1 : PP ≤ P + 300) (h2 : ps.length ≤ 8) (h3 : ∀ p ∈ ps, p.small) : DrawnH r P w (.returned vo) W := by
  exact ⟨ps, lim, vo, rfl, K.ot, h2, h3, K.rd.mono h1, K.gr⟩
theorem info3D : (Tryd.prog.info? 34).map (fun i => (i.zero, i.size, i.bytes)) = some (some (.agg #[.int .i64 0, .int .i64 0, .int .i64 0]), 3, 24) := by kernel_rfl
set_option maxHeartbeats 4000000 in
theorem l20History_c (r P most : Nat) (n : Int) (w : World) (h : RdrB w r P) (hP : P ≤ 50000) (hm : most ≤ 6) (hn : -1000 ≤ n) (hn2 : n ≤ 1000) :
    Calls Tryd.prog 34 #[.pointer (some ⟨r, 0, none⟩), .int .i64 most, .int .i64 n] w (DrawnH r P w) := by
  have hr := h.lt
  have hmk := mk3
  have hmk7 := mk7
  go_enter Tryd.func34, Tryd.ntmps34
  go_wp2_with (fail)
  go_at_call 65
  refine (pick_c r P (most + 1) _ (h.ext (by (repeat' (first | (with_reducible exact Below.refl _ _) | (with_reducible refine Below.mono (by assumption) ?_) | (with_reducible refine Below.trans ?_ (Below.mono (by assumption) ?_)) | (with_reducible refine Below.alloc ?_ ?_ _) | (with_reducible refine Below.drew ?_) | (with_reducible refine below_drewN ?_ _) | (with_reducible refine Below.setCell ?_ ?_ _) | (simp only [World.size_alloc, World.size_setCell, World.size_drew, size_drewN]; omega) | omega)))) (by omega) (by omega) (by omega)).mono ?_
  rintro e w1 ⟨k0, rfl, hk0, hR0, hG0⟩
  obtain ⟨hc, hf, hz, hs⟩ := gcell hG0
  (try simp only [World.size_alloc, World.size_setCell, World.size_drew, size_drewN] at hs); (first | have l0 := Nat.lt_of_lt_of_le l0 (show _ ≤ w1.heap.size by omega) | have l0 : w.heap.size < w1.heap.size := (by omega) | skip); (try have l0e := Nat.le_of_lt l0); (try have l0f := Nat.le_add_right_of_le (k := 1) l0e); (try have l1 := Nat.lt_of_lt_of_le l1 (show _ ≤ w1.heap.size by omega)); (try have l1e := Nat.le_of_lt l1); (try have l1f := Nat.le_add_right_of_le (k := 1) l1e); (try have l2 := Nat.lt_of_lt_of_le l2 (show _ ≤ w1.heap.size by omega)); (try have l2e := Nat.le_of_lt l2); (try have l2f := Nat.le_add_right_of_le (k := 1) l2e); (try have l3 := Nat.lt_of_lt_of_le l3 (show _ ≤ w1.heap.size by omega)); (try have l3e := Nat.le_of_lt l3); (try have l3f := Nat.le_add_right_of_le (k := 1) l3e)
  have q0 := hk0 (by omega)
  have HH : HeadH r P w k0 (.slice (some ⟨w.heap.size, 0, none⟩) 0 0) (.int .i64 1) (.slice (some ⟨w.heap.size + 1, 0, none⟩) 3 3) w1 := by
    have h0 : Keep r w.heap.size w (.slice (some ⟨w.heap.size, 0, none⟩) 0 0) [] (.slice (some ⟨w.heap.size + 1, 0, none⟩) 3 3) [0, 0, 0] (.slice none 0 0) [] P ((w.alloc (.cells #[] 32)).alloc (.cells #[.int .i64 0, .int .i64 0, .int .i64 0] 3)) := by
      refine ⟨(OwnT.made0 w (Nat.le_refl _)).grown (row := none) (grown_ext (by (repeat' (first | (with_reducible exact Below.refl _ _) | (with_reducible refine Below.mono (by assumption) ?_) | (with_reducible refine Below.trans ?_ (Below.mono (by assumption) ?_)) | (with_reducible refine Below.alloc ?_ ?_ _) | (with_reducible refine Below.drew ?_) | (with_reducible refine below_drewN ?_ _) | (with_reducible refine Below.setCell ?_ ?_ _) | (simp only [World.size_alloc, World.size_setCell, World.size_drew, size_drewN]; omega) | omega))) _) (by simp [Value.ownBlock]) (fun g hg => by cases hg), ?_, Own1.nil, h.ext (by (repeat' (first | (with_reducible exact Below.refl _ _) | (with_reducible refine Below.mono (by assumption) ?_) | (with_reducible refine Below.trans ?_ (Below.mono (by assumption) ?_)) | (with_reducible refine Below.alloc ?_ ?_ _) | (with_reducible refine Below.drew ?_) | (with_reducible refine below_drewN ?_ _) | (with_reducible refine Below.setCell ?_ ?_ _) | (simp only [World.size_alloc, World.size_setCell, World.size_drew, size_drewN]; omega) | omega))), grown_ext (by (repeat' (first | (with_reducible exact Below.refl _ _) | (with_reducible refine Below.mono (by assumption) ?_) | (with_reducible refine Below.trans ?_ (Below.mono (by assumption) ?_)) | (with_reducible refine Below.alloc ?_ ?_ _) | (with_reducible refine Below.drew ?_) | (with_reducible refine below_drewN ?_ _) | (with_reducible refine Below.setCell ?_ ?_ _) | (simp only [World.size_alloc, World.size_setCell, World.size_drew, size_drewN]; omega) | omega))) _, hr, Nat.le_refl _, by simp [Value.ownBlock]⟩
      have := Own1.lit (w.alloc (.cells #[] 32)) (base := w.heap.size) (e := 3) [0, 0, 0] (by simp) (by simp)
      simpa [flat1] using this
    refine ⟨[], [0, 0, 0], 1, w.heap.size, P + 1, w.heap.size + 1, 3, rfl, rfl, by omega, by simp; omega, (fun p hp => by cases hp), rfl, ?_, by omega, by omega, h0.pick hG0 hR0⟩
    intro x hx
    simp at hx
    subst hx
    exact ⟨by omega, by omega⟩
  have HH := Lib.hid HH
  clear hG0 hR0 hc hf hz h
  go_wp2_with (fail)
  go_loopw [7, 8, 9, 10] (fun vo vn vs vk W => ∃ k : Nat, vk = .int .i64 k ∧ HeadH r P w k vo vn vs W) (fun _ _ _ vk _ => (intOf vk).toNat)
  case atStart => exact ⟨k0, rfl, HH.out⟩
  case round =>
    obtain ⟨k, rfl, ps, st, nx, lim, PP, g9, c9, rfl, rfl, hlim, hlen, hsm, hst3, hsts, hnx, hPP, hK⟩ := hrel
    have hwz := hK.gr.size
    have hrw : r < wr.heap.size := hK.rd.lt
    have hlw := hK.lb
    clear HH
    by_cases hk : k = 0
    · obtain rfl := hk
      obtain ⟨A7, c7, rfl, hcap7, hTx, hf7⟩ := hK.ot.txns
      have HK := Lib.hid hK
      clear hK hTx hf7
      go_upto_region 26 with (fail)
      go_cut [107] from 18 to 165 (fun b W => ∃ (bb : Bool) (PP' : Nat), b = .bool bb ∧ (bb = true → 1 < ps.length) ∧ PP' ≤ P + 242 ∧ lim ≤ W.heap.size ∧ Keep r lim w (.slice A7 ps.length c7) ps (.slice (some ⟨g9, 0, none⟩) 3 c9) st (.slice none 0 0) [] PP' W)
      case first =>
        by_cases hl1 : 1 < ps.length
        · skip
          go_wp2_with (fail)
          go_at_call 65
          refine (pick_c r PP 3 _ HK.out.rd (by omega) (by omega) (by omega)).mono ?_
          rintro e w5 ⟨k5, rfl, hk5, hR5, hG5⟩
          obtain ⟨hc, hf, hz, hs⟩ := gcell hG5
          (try simp only [World.size_alloc, World.size_setCell, World.size_drew, size_drewN] at hs); (first | have l0 := Nat.lt_of_lt_of_le l0 (show _ ≤ w5.heap.size by omega) | have l0 : w.heap.size < w5.heap.size := (by omega) | skip); (try have l0e := Nat.le_of_lt l0); (try have l0f := Nat.le_add_right_of_le (k := 1) l0e); (try have l1 := Nat.lt_of_lt_of_le l1 (show _ ≤ w5.heap.size by omega)); (try have l1e := Nat.le_of_lt l1); (try have l1f := Nat.le_add_right_of_le (k := 1) l1e); (try have l2 := Nat.lt_of_lt_of_le l2 (show _ ≤ w5.heap.size by omega)); (try have l2e := Nat.le_of_lt l2); (try have l2f := Nat.le_add_right_of_le (k := 1) l2e); (try have l3 := Nat.lt_of_lt_of_le l3 (show _ ≤ w5.heap.size by omega)); (try have l3e := Nat.le_of_lt l3); (try have l3f := Nat.le_add_right_of_le (k := 1) l3e)
          have K5 := HK.out.pick hG5 hR5
          have HK5 := Lib.hid K5
          clear K5 hc hf hz hG5 hR5 HK hk5
          go_wp2
          go_meet
          exact ⟨_, _, rfl, fun _ => hl1, by omega, by omega, HK5.out⟩
        · go_wp2
          go_meet
          exact ⟨false, _, rfl, fun h => absurd h (by decide), by omega, hlim, HK.out⟩
      case rest =>
        obtain ⟨bb, PR, rfl, hbb, hPR, hlimc, hKr⟩ := hcut
        have HKr := Lib.hid hKr
        clear hKr HK
        go_upto_if 107 with (fail)
        go_cut [7] from 18 to 165 (fun v W => ∃ (qs : List PT) (PP' : Nat), qs.length = ps.length ∧ (∀ p ∈ qs, p.small) ∧ v = .slice A7 ps.length c7 ∧ PP' ≤ P + 243 ∧ lim ≤ W.heap.size ∧ Keep r lim w (.slice A7 ps.length c7) qs (.slice (some ⟨g9, 0, none⟩) 3 c9) st (.slice none 0 0) [] PP' W)
        case first =>
          cases bb
          · go_wp2
            go_meet
            exact ⟨ps, PR, rfl, hsm, rfl, by omega, hlimc, HKr.out⟩
          · have hl1 := hbb rfl
            obtain ⟨g7, rfl⟩ : ∃ g7, A7 = some ⟨g7, 0, none⟩ := by
              rcases HKr.out.ot.1.2 with ⟨hv, hn0⟩ | ⟨g, cap, cur, hv, _⟩
              · omega
              · simp only [Value.slice.injEq] at hv
                exact ⟨g, hv.1⟩
            go_wp2_with (fail)
            go_at_call 65
            refine (pick_c r PR ((ps.length : Int) - 1) _ HKr.out.rd (by omega) (by omega) (by omega)).mono ?_
            rintro e w5 ⟨q, rfl, hq, hR5, hG5⟩
            obtain ⟨hc, hf, hz, hs⟩ := gcell hG5
            (try simp only [World.size_alloc, World.size_setCell, World.size_drew, size_drewN] at hs); (first | have l0 := Nat.lt_of_lt_of_le l0 (show _ ≤ w5.heap.size by omega) | have l0 : w.heap.size < w5.heap.size := (by omega) | skip); (try have l0e := Nat.le_of_lt l0); (try have l0f := Nat.le_add_right_of_le (k := 1) l0e); (try have l1 := Nat.lt_of_lt_of_le l1 (show _ ≤ w5.heap.size by omega)); (try have l1e := Nat.le_of_lt l1); (try have l1f := Nat.le_add_right_of_le (k := 1) l1e); (try have l2 := Nat.lt_of_lt_of_le l2 (show _ ≤ w5.heap.size by omega)); (try have l2e := Nat.le_of_lt l2); (try have l2f := Nat.le_add_right_of_le (k := 1) l2e); (try have l3 := Nat.lt_of_lt_of_le l3 (show _ ≤ w5.heap.size by omega)); (try have l3e := Nat.le_of_lt l3); (try have l3f := Nat.le_add_right_of_le (k := 1) l3e)
            have hq1 := hq (by omega)
            have K5 := HKr.out.pick hG5 hR5
            obtain ⟨p0, hp0⟩ : ∃ p0, ps[q]? = some p0 := ⟨_, List.getElem?_eq_getElem (by omega)⟩
            obtain ⟨p1, hp1⟩ : ∃ p1, ps[q + 1]? = some p1 := ⟨_, List.getElem?_eq_getElem (by omega)⟩
            obtain ⟨a0, a1, a2, af, al⟩ := K5.ot.at_ hp0
            obtain ⟨b0, b1, b2, _, _⟩ := K5.ot.at_ hp1
            have HK5 := Lib.hid K5
            have HP0 := Lib.hid hp0
            have HP1 := Lib.hid hp1
            clear K5 hc hf hz hG5 hR5 HKr hq hp0 hp1
            have hne : w5.heap.size ≠ g7 := by omega
            go_upto_region 30 with (fail)
            have hBV : Blk ((((w5.setCell ⟨g7, q * 3, none⟩ (.int .i64 p1.s)).setCell ⟨g7, q * 3 + 1, none⟩ (.slice p1.A p1.ops.length p1.c)).setCell ⟨g7, q * 3 + 2, none⟩ (.bool p1.d)).alloc (.cells #[.int .i64 p0.s, .slice p0.A p0.ops.length p0.c, .bool p0.d] 32)) w5.heap.size 32 #[.int .i64 p0.s, .slice p0.A p0.ops.length p0.c, .bool p0.d] := by
              have := Blk.new (((w5.setCell ⟨g7, q * 3, none⟩ (.int .i64 p1.s)).setCell ⟨g7, q * 3 + 1, none⟩ (.slice p1.A p1.ops.length p1.c)).setCell ⟨g7, q * 3 + 2, none⟩ (.bool p1.d)) 32 #[.int .i64 p0.s, .slice p0.A p0.ops.length p0.c, .bool p0.d]
              simpa [World.setCell] using this
            go_wp2
            go_meet
            obtain ⟨hO, hgO⟩ := HK5.out.ot.swap HP0.out HP1.out rfl rfl
            have K8 := HK5.out.next hgO hO HK5.out.lb
            exact ⟨_, _, by simp, set_smallP (set_smallP hsm (hsm _ (List.mem_of_getElem? HP1.out)) q) (hsm _ (List.mem_of_getElem? HP0.out)) (q + 1), rfl, by omega, (by simp only [World.size_alloc, World.size_setCell]; omega), K8.ext (by (repeat' (first | (with_reducible exact Below.refl _ _) | (with_reducible refine Below.mono (by assumption) ?_) | (with_reducible refine Below.trans ?_ (Below.mono (by assumption) ?_)) | (with_reducible refine Below.alloc ?_ ?_ _) | (with_reducible refine Below.drew ?_) | (with_reducible refine below_drewN ?_ _) | (with_reducible refine Below.setCell ?_ ?_ _) | (simp only [World.size_alloc, World.size_setCell, World.size_drew, size_drewN]; omega) | omega)))⟩
        case rest =>
          clear hlimc
          obtain ⟨qs, PQ, hql, hqs, rfl, hPQ, hlimc, hKq⟩ := hcut
          have hqlen : qs.length ≤ 6 := by omega
          rw [← hql] at hKq ⊢
          have HKq := Lib.hid hKq
          clear hKq HKr hql
          go_wp2_with (fail)
          go_at_call 72
          refine (odd_c r PQ n _ HKq.out.rd (by omega) (by omega) (by omega)).mono ?_
          rintro e w6 ⟨b6, rfl, hR6, hG6⟩
          obtain ⟨hc, hf, hz, hs⟩ := gcell hG6
          (try simp only [World.size_alloc, World.size_setCell, World.size_drew, size_drewN] at hs); (first | have l0 := Nat.lt_of_lt_of_le l0 (show _ ≤ w6.heap.size by omega) | have l0 : w.heap.size < w6.heap.size := (by omega) | skip); (try have l0e := Nat.le_of_lt l0); (try have l0f := Nat.le_add_right_of_le (k := 1) l0e); (try have l1 := Nat.lt_of_lt_of_le l1 (show _ ≤ w6.heap.size by omega)); (try have l1e := Nat.le_of_lt l1); (try have l1f := Nat.le_add_right_of_le (k := 1) l1e); (try have l2 := Nat.lt_of_lt_of_le l2 (show _ ≤ w6.heap.size by omega)); (try have l2e := Nat.le_of_lt l2); (try have l2f := Nat.le_add_right_of_le (k := 1) l2e); (try have l3 := Nat.lt_of_lt_of_le l3 (show _ ≤ w6.heap.size by omega)); (try have l3e := Nat.le_of_lt l3); (try have l3f := Nat.le_add_right_of_le (k := 1) l3e)
          have K6 := HKq.out.pick hG6 hR6
          have HK6 := Lib.hid K6
          have hlim6 : lim ≤ w6.heap.size := Nat.le_trans hlimc hG6.size
          clear K6 hc hf hz hG6 hR6 HKq
          cases b6
          · go_wp2
            go_ret
            exact fin_end (PP := PQ + 1) HK6.out (by omega) (by omega) hqs
          · skip
            go_wp2_with (fail)
            go_at_call 65
            refine (pick_c r (PQ + 1) 4 _ HK6.out.rd (by omega) (by omega) (by omega)).mono ?_
            rintro e w7 ⟨k7, rfl, hk7, hR7, hG7⟩
            obtain ⟨hc, hf, hz, hs⟩ := gcell hG7
            (try simp only [World.size_alloc, World.size_setCell, World.size_drew, size_drewN] at hs); (first | have l0 := Nat.lt_of_lt_of_le l0 (show _ ≤ w7.heap.size by omega) | have l0 : w.heap.size < w7.heap.size := (by omega) | skip); (try have l0e := Nat.le_of_lt l0); (try have l0f := Nat.le_add_right_of_le (k := 1) l0e); (try have l1 := Nat.lt_of_lt_of_le l1 (show _ ≤ w7.heap.size by omega)); (try have l1e := Nat.le_of_lt l1); (try have l1f := Nat.le_add_right_of_le (k := 1) l1e); (try have l2 := Nat.lt_of_lt_of_le l2 (show _ ≤ w7.heap.size by omega)); (try have l2e := Nat.le_of_lt l2); (try have l2f := Nat.le_add_right_of_le (k := 1) l2e); (try have l3 := Nat.lt_of_lt_of_le l3 (show _ ≤ w7.heap.size by omega)); (try have l3e := Nat.le_of_lt l3); (try have l3f := Nat.le_add_right_of_le (k := 1) l3e)
            have hk7' := hk7 (by omega)
            have K7 := HK6.out.pick hG7 hR7
            have HK7 := Lib.hid K7
            have hr7 := hR7.lt
            have hw7 := K7.gr.size
            have hlim7 : lim ≤ w7.heap.size := Nat.le_trans hlim6 hG7.size
            clear K7 hc hf hz hG7 hR7 HK6 hk7
            obtain rfl | rfl | rfl | rfl : k7 = 0 ∨ k7 = 1 ∨ k7 = 2 ∨ k7 = 3 := by omega
            · skip
              go_wp2_with (fail)
              go_at_call 65
              refine (pick_c r (PQ + 1 + 1) 2 _ (HK7.out.rd.ext (by (repeat' (first | (with_reducible exact Below.refl _ _) | (with_reducible refine Below.mono (by assumption) ?_) | (with_reducible refine Below.trans ?_ (Below.mono (by assumption) ?_)) | (with_reducible refine Below.alloc ?_ ?_ _) | (with_reducible refine Below.drew ?_) | (with_reducible refine below_drewN ?_ _) | (with_reducible refine Below.setCell ?_ ?_ _) | (simp only [World.size_alloc, World.size_setCell, World.size_drew, size_drewN]; omega) | omega)))) (by omega) (by omega) (by omega)).mono ?_
              rintro e w8 ⟨k8, rfl, hk8, hR8, hG8⟩
              obtain ⟨hc, hf, hz, hs⟩ := gcell hG8
              (try simp only [World.size_alloc, World.size_setCell, World.size_drew, size_drewN] at hs); (first | have l0 := Nat.lt_of_lt_of_le l0 (show _ ≤ w8.heap.size by omega) | have l0 : w.heap.size < w8.heap.size := (by omega) | skip); (try have l0e := Nat.le_of_lt l0); (try have l0f := Nat.le_add_right_of_le (k := 1) l0e); (try have l1 := Nat.lt_of_lt_of_le l1 (show _ ≤ w8.heap.size by omega)); (try have l1e := Nat.le_of_lt l1); (try have l1f := Nat.le_add_right_of_le (k := 1) l1e); (try have l2 := Nat.lt_of_lt_of_le l2 (show _ ≤ w8.heap.size by omega)); (try have l2e := Nat.le_of_lt l2); (try have l2f := Nat.le_add_right_of_le (k := 1) l2e); (try have l3 := Nat.lt_of_lt_of_le l3 (show _ ≤ w8.heap.size by omega)); (try have l3e := Nat.le_of_lt l3); (try have l3f := Nat.le_add_right_of_le (k := 1) l3e)
              have hk8' := hk8 (by omega)
              have K8 := (HK7.out.ext (W' := w7.alloc (.cells #[.int .i64 (-1), .int .i64 4] 3)) (by (repeat' (first | (with_reducible exact Below.refl _ _) | (with_reducible refine Below.mono (by assumption) ?_) | (with_reducible refine Below.trans ?_ (Below.mono (by assumption) ?_)) | (with_reducible refine Below.alloc ?_ ?_ _) | (with_reducible refine Below.drew ?_) | (with_reducible refine below_drewN ?_ _) | (with_reducible refine Below.setCell ?_ ?_ _) | (simp only [World.size_alloc, World.size_setCell, World.size_drew, size_drewN]; omega) | omega)))).pick hG8 hR8
              obtain ⟨z, hz, hz1, hz2⟩ := lit_two w7 3 k8 (by omega)
              have hz8 : w8.cell? ⟨w7.heap.size, k8, none⟩ = some (.int .i64 z) := by rw [hc _ _ (by simp) (by omega)]; exact hz
              have hw8 := K8.gr.size
              have hlim8 : lim ≤ w8.heap.size := by (try simp only [World.size_alloc] at hs); omega
              have HK8 := Lib.hid K8
              clear K8 hc hf hG8 hR8 HK7 hk8 hz
              have E9 := HK8.out.ext (W' := w8.alloc (.cells #[.int .i64 z, .slice none 0 0, .bool false] 32)) (by (repeat' (first | (with_reducible exact Below.refl _ _) | (with_reducible refine Below.mono (by assumption) ?_) | (with_reducible refine Below.trans ?_ (Below.mono (by assumption) ?_)) | (with_reducible refine Below.alloc ?_ ?_ _) | (with_reducible refine Below.drew ?_) | (with_reducible refine below_drewN ?_ _) | (with_reducible refine Below.setCell ?_ ?_ _) | (simp only [World.size_alloc, World.size_setCell, World.size_drew, size_drewN]; omega) | omega)))
              have HE9 := Lib.hid E9
              have hlz : lim ≤ (w8.alloc (.cells #[.int .i64 z, .slice none 0 0, .bool false] 32)).heap.size := by rw [World.size_alloc]; omega
              clear E9
              go_wp2_with (at_builtin; refine wpList_appendP _ rfl _ _ 23 rfl Tryd.underlying23 infoTxnD rfl _ qs rfl HE9.out.ot ⟨z, none, 0, [], false⟩ Own3.nil (fun a ha => by cases ha) hlz _ rfl ((lit_cell _ _ _ 0).trans rfl) ((lit_cell _ _ _ 1).trans rfl) ((lit_cell _ _ _ 2).trans rfl) ?_ ?_ ?_)
              · omega
              · (try simp only [World.size_alloc]); omega
              · intro v' w' hOT' hgr'
                have K9 := HE9.out.next hgr' hOT' (by (try simp only [World.size_alloc]); omega)
                have HK9 := Lib.hid K9
                clear K9 hOT' hgr' HE9
                go_wp2
                go_ret
                exact fin_end (PP := PQ + 1 + 1 + 1) HK9.out (by omega) (by simp; omega) (app_smallP hqs ⟨(by first | exact (show SmallI 0 from ⟨by omega, by omega⟩) | exact (show SmallI z from ⟨by omega, by omega⟩)), by simp, fun o ho => by cases ho⟩)
            · skip
              have O7 := Own3.lit w7 (base := w.heap.size) (e := 34) [⟨2, 0, 90⟩, ⟨2, 0, 90⟩] hw7 (by simp)
              have O8 := O7.ext (w' := (w7.alloc (.cells #[.int .i64 2, .int .i64 0, .int .i64 90, .int .i64 2, .int .i64 0, .int .i64 90] 34)).alloc (.cells #[.int .i64 0, .slice (some ⟨w7.heap.size, 0, none⟩) 2 2, .bool false] 32)) (show Ext (w7.alloc (.cells #[.int .i64 2, .int .i64 0, .int .i64 90, .int .i64 2, .int .i64 0, .int .i64 90] 34)) _ by (repeat' (first | (with_reducible exact Below.refl _ _) | (with_reducible refine Below.mono (by assumption) ?_) | (with_reducible refine Below.trans ?_ (Below.mono (by assumption) ?_)) | (with_reducible refine Below.alloc ?_ ?_ _) | (with_reducible refine Below.drew ?_) | (with_reducible refine below_drewN ?_ _) | (with_reducible refine Below.setCell ?_ ?_ _) | (simp only [World.size_alloc, World.size_setCell, World.size_drew, size_drewN]; omega) | omega)))
              have HO8 := Lib.hid O8
              have HPA : Hid (∀ a, (some ⟨w7.heap.size, 0, none⟩ : Option Addr) = some a → a.block < ((w7.alloc (.cells #[.int .i64 2, .int .i64 0, .int .i64 90, .int .i64 2, .int .i64 0, .int .i64 90] 34)).alloc (.cells #[.int .i64 0, .slice (some ⟨w7.heap.size, 0, none⟩) 2 2, .bool false] 32)).heap.size) := Lib.hid (fun a ha => by cases ha; rw [World.size_alloc, World.size_alloc]; simp only; omega)
              clear O7 O8
              have E9 := HK7.out.ext (W' := (w7.alloc (.cells #[.int .i64 2, .int .i64 0, .int .i64 90, .int .i64 2, .int .i64 0, .int .i64 90] 34)).alloc (.cells #[.int .i64 0, .slice (some ⟨w7.heap.size, 0, none⟩) 2 2, .bool false] 32)) (by (repeat' (first | (with_reducible exact Below.refl _ _) | (with_reducible refine Below.mono (by assumption) ?_) | (with_reducible refine Below.trans ?_ (Below.mono (by assumption) ?_)) | (with_reducible refine Below.alloc ?_ ?_ _) | (with_reducible refine Below.drew ?_) | (with_reducible refine below_drewN ?_ _) | (with_reducible refine Below.setCell ?_ ?_ _) | (simp only [World.size_alloc, World.size_setCell, World.size_drew, size_drewN]; omega) | omega)))
              have HE9 := Lib.hid E9
              have hlz : lim ≤ ((w7.alloc (.cells #[.int .i64 2, .int .i64 0, .int .i64 90, .int .i64 2, .int .i64 0, .int .i64 90] 34)).alloc (.cells #[.int .i64 0, .slice (some ⟨w7.heap.size, 0, none⟩) 2 2, .bool false] 32)).heap.size := by rw [World.size_alloc, World.size_alloc]; omega
              clear E9
              go_wp2_with (at_builtin; refine wpList_appendP _ rfl _ _ 23 rfl Tryd.underlying23 infoTxnD rfl _ qs rfl HE9.out.ot ⟨0, some ⟨w7.heap.size, 0, none⟩, 2, [⟨2, 0, 90⟩, ⟨2, 0, 90⟩], false⟩ HO8.out HPA.out hlz _ rfl ((lit_cell2 _ _ _ _ 0).trans rfl) ((lit_cell2 _ _ _ _ 1).trans rfl) ((lit_cell2 _ _ _ _ 2).trans rfl) ?_ ?_ ?_)
              · omega
              · (try simp only [World.size_alloc]); omega
              · intro v' w' hOT' hgr'
                have K9 := HE9.out.next hgr' hOT' (by (try simp only [World.size_alloc]); omega)
                have HK9 := Lib.hid K9
                clear K9 hOT' hgr' HE9
                go_wp2
                go_ret
                exact fin_end (PP := PQ + 1 + 1) HK9.out (by omega) (by simp; omega) (app_smallP hqs ⟨(by first | exact (show SmallI 0 from ⟨by omega, by omega⟩) | exact (show SmallI z from ⟨by omega, by omega⟩)), by simp, two_small⟩)
            · skip
              go_wp2_with (fail)
              go_at_call 73
              refine (l20Op_c r (PQ + 1 + 1) 1 _ HK7.out.rd (by omega) (by omega) (by omega)).mono ?_
              rintro e w8 ⟨x, rfl, hx, hR8, hG8⟩
              obtain ⟨hc, hf, hz, hs⟩ := gcell hG8
              (try simp only [World.size_alloc, World.size_setCell, World.size_drew, size_drewN] at hs); (first | have l0 := Nat.lt_of_lt_of_le l0 (show _ ≤ w8.heap.size by omega) | have l0 : w.heap.size < w8.heap.size := (by omega) | skip); (try have l0e := Nat.le_of_lt l0); (try have l0f := Nat.le_add_right_of_le (k := 1) l0e); (try have l1 := Nat.lt_of_lt_of_le l1 (show _ ≤ w8.heap.size by omega)); (try have l1e := Nat.le_of_lt l1); (try have l1f := Nat.le_add_right_of_le (k := 1) l1e); (try have l2 := Nat.lt_of_lt_of_le l2 (show _ ≤ w8.heap.size by omega)); (try have l2e := Nat.le_of_lt l2); (try have l2f := Nat.le_add_right_of_le (k := 1) l2e); (try have l3 := Nat.lt_of_lt_of_le l3 (show _ ≤ w8.heap.size by omega)); (try have l3e := Nat.le_of_lt l3); (try have l3f := Nat.le_add_right_of_le (k := 1) l3e)
              have K8 := HK7.out.pick hG8 hR8
              have hw8 := K8.gr.size
              have hw78 := hG8.size
              have HK8 := Lib.hid K8
              have O7 := Own3.lit w8 (base := w.heap.size) (e := 34) [x] hw8 (by simp)
              have O8 := O7.ext (w' := (w8.alloc (.cells #[.int .i64 x.a, .int .i64 x.b, .int .i64 x.c] 34)).alloc (.cells #[.int .i64 0, .slice (some ⟨w8.heap.size, 0, none⟩) 1 1, .bool false] 32)) (show Ext (w8.alloc (.cells #[.int .i64 x.a, .int .i64 x.b, .int .i64 x.c] 34)) _ by (repeat' (first | (with_reducible exact Below.refl _ _) | (with_reducible refine Below.mono (by assumption) ?_) | (with_reducible refine Below.trans ?_ (Below.mono (by assumption) ?_)) | (with_reducible refine Below.alloc ?_ ?_ _) | (with_reducible refine Below.drew ?_) | (with_reducible refine below_drewN ?_ _) | (with_reducible refine Below.setCell ?_ ?_ _) | (simp only [World.size_alloc, World.size_setCell, World.size_drew, size_drewN]; omega) | omega)))
              have HO8 := Lib.hid O8
              have HPA : Hid (∀ a, (some ⟨w8.heap.size, 0, none⟩ : Option Addr) = some a → a.block < ((w8.alloc (.cells #[.int .i64 x.a, .int .i64 x.b, .int .i64 x.c] 34)).alloc (.cells #[.int .i64 0, .slice (some ⟨w8.heap.size, 0, none⟩) 1 1, .bool false] 32)).heap.size) := Lib.hid (fun a ha => by cases ha; rw [World.size_alloc, World.size_alloc]; simp only; omega)
              clear K8 hc hf hz hG8 hR8 HK7 O7 O8
              have E9 := HK8.out.ext (W' := (w8.alloc (.cells #[.int .i64 x.a, .int .i64 x.b, .int .i64 x.c] 34)).alloc (.cells #[.int .i64 0, .slice (some ⟨w8.heap.size, 0, none⟩) 1 1, .bool false] 32)) (by (repeat' (first | (with_reducible exact Below.refl _ _) | (with_reducible refine Below.mono (by assumption) ?_) | (with_reducible refine Below.trans ?_ (Below.mono (by assumption) ?_)) | (with_reducible refine Below.alloc ?_ ?_ _) | (with_reducible refine Below.drew ?_) | (with_reducible refine below_drewN ?_ _) | (with_reducible refine Below.setCell ?_ ?_ _) | (simp only [World.size_alloc, World.size_setCell, World.size_drew, size_drewN]; omega) | omega)))
              have HE9 := Lib.hid E9
              have hlz : lim ≤ ((w8.alloc (.cells #[.int .i64 x.a, .int .i64 x.b, .int .i64 x.c] 34)).alloc (.cells #[.int .i64 0, .slice (some ⟨w8.heap.size, 0, none⟩) 1 1, .bool false] 32)).heap.size := by rw [World.size_alloc, World.size_alloc]; omega
              clear E9
              go_wp2_with (at_builtin; refine wpList_appendP _ rfl _ _ 23 rfl Tryd.underlying23 infoTxnD rfl _ qs rfl HE9.out.ot ⟨0, some ⟨w8.heap.size, 0, none⟩, 1, [x], false⟩ HO8.out HPA.out hlz _ rfl ((lit_cell2 _ _ _ _ 0).trans rfl) ((lit_cell2 _ _ _ _ 1).trans rfl) ((lit_cell2 _ _ _ _ 2).trans rfl) ?_ ?_ ?_)
              · omega
              · (try simp only [World.size_alloc]); omega
              · intro v' w' hOT' hgr'
                have K9 := HE9.out.next hgr' hOT' (by (try simp only [World.size_alloc]); omega)
                have HK9 := Lib.hid K9
                clear K9 hOT' hgr' HE9
                go_wp2
                go_ret
                exact fin_end (PP := PQ + 1 + 1 + 7) HK9.out (by omega) (by simp; omega) (app_smallP hqs ⟨(by first | exact (show SmallI 0 from ⟨by omega, by omega⟩) | exact (show SmallI z from ⟨by omega, by omega⟩)), by simp, fun o ho => by obtain rfl := List.mem_singleton.1 ho; exact hx⟩)
            · go_wp2
              go_ret
              have K9 : Keep r lim w (.slice (some ⟨w7.heap.size, 0, none⟩) 7 7) (List.replicate 7 zeroT) (.slice (some ⟨g9, 0, none⟩) 3 c9) st (.slice none 0 0) [] (PQ + 1 + 1) (w7.alloc (.cells (flatP (List.replicate 7 zeroT)).toArray 32)) :=
                { HK7.out.ext (show Ext w7 (w7.alloc (.cells (flatP (List.replicate 7 zeroT)).toArray 32)) by (repeat' (first | (with_reducible exact Below.refl _ _) | (with_reducible refine Below.mono (by assumption) ?_) | (with_reducible refine Below.trans ?_ (Below.mono (by assumption) ?_)) | (with_reducible refine Below.alloc ?_ ?_ _) | (with_reducible refine Below.drew ?_) | (with_reducible refine below_drewN ?_ _) | (with_reducible refine Below.setCell ?_ ?_ _) | (simp only [World.size_alloc, World.size_setCell, World.size_drew, size_drewN]; omega) | omega))) with ot := OwnT.zeros w7 _ (by simp) hw7 }
              exact fin_end K9 (by omega) (by simp) (fun p hp => by
                obtain rfl := List.eq_of_mem_replicate hp
                exact ⟨⟨by decide, by decide⟩, by decide, fun o ho => by cases ho⟩)
    · have hk1 : 0 < k := by omega
      have HK := Lib.hid hK
      clear hK
      go_wp2_with (fail)
      go_at_call 65
      refine (pick_c r PP 3 _ HK.out.rd (by omega) (by omega) (by omega)).mono ?_
      rintro e w2 ⟨s1, rfl, hs1, hR1, hG1⟩
      obtain ⟨hc, hf, hz, hs⟩ := gcell hG1
      (try simp only [World.size_alloc, World.size_setCell, World.size_drew, size_drewN] at hs); (first | have l0 := Nat.lt_of_lt_of_le l0 (show _ ≤ w2.heap.size by omega) | have l0 : w.heap.size < w2.heap.size := (by omega) | skip); (try have l0e := Nat.le_of_lt l0); (try have l0f := Nat.le_add_right_of_le (k := 1) l0e); (try have l1 := Nat.lt_of_lt_of_le l1 (show _ ≤ w2.heap.size by omega)); (try have l1e := Nat.le_of_lt l1); (try have l1f := Nat.le_add_right_of_le (k := 1) l1e); (try have l2 := Nat.lt_of_lt_of_le l2 (show _ ≤ w2.heap.size by omega)); (try have l2e := Nat.le_of_lt l2); (try have l2f := Nat.le_add_right_of_le (k := 1) l2e); (try have l3 := Nat.lt_of_lt_of_le l3 (show _ ≤ w2.heap.size by omega)); (try have l3e := Nat.le_of_lt l3); (try have l3f := Nat.le_add_right_of_le (k := 1) l3e)
      have hr2 := hR1.lt
      have hw2 := hG1.size
      go_wp2_with (fail)
      go_at_call 65
      refine (pick_c r (PP + 1) 6 _ (hR1.ext (by (repeat' (first | (with_reducible exact Below.refl _ _) | (with_reducible refine Below.mono (by assumption) ?_) | (with_reducible refine Below.trans ?_ (Below.mono (by assumption) ?_)) | (with_reducible refine Below.alloc ?_ ?_ _) | (with_reducible refine Below.drew ?_) | (with_reducible refine below_drewN ?_ _) | (with_reducible refine Below.setCell ?_ ?_ _) | (simp only [World.size_alloc, World.size_setCell, World.size_drew, size_drewN]; omega) | omega)))) (by omega) (by omega) (by omega)).mono ?_
      rintro e w3 ⟨s2, rfl, hs2, hR2, hG2⟩
      obtain ⟨hc, hf, hz, hs⟩ := gcell hG2
      (try simp only [World.size_alloc, World.size_setCell, World.size_drew, size_drewN] at hs); (first | have l0 := Nat.lt_of_lt_of_le l0 (show _ ≤ w3.heap.size by omega) | have l0 : w.heap.size < w3.heap.size := (by omega) | skip); (try have l0e := Nat.le_of_lt l0); (try have l0f := Nat.le_add_right_of_le (k := 1) l0e); (try have l1 := Nat.lt_of_lt_of_le l1 (show _ ≤ w3.heap.size by omega)); (try have l1e := Nat.le_of_lt l1); (try have l1f := Nat.le_add_right_of_le (k := 1) l1e); (try have l2 := Nat.lt_of_lt_of_le l2 (show _ ≤ w3.heap.size by omega)); (try have l2e := Nat.le_of_lt l2); (try have l2f := Nat.le_add_right_of_le (k := 1) l2e); (try have l3 := Nat.lt_of_lt_of_le l3 (show _ ≤ w3.heap.size by omega)); (try have l3e := Nat.le_of_lt l3); (try have l3f := Nat.le_add_right_of_le (k := 1) l3e)
      have hr3 := hR2.lt
      have hq1 := hs1 (by omega)
      have K2 := HK.out.pick hG1 hR1
      have K3 : Keep r lim w u7 ps (.slice (some ⟨g9, 0, none⟩) 3 c9) st (.slice none 0 0) [] (PP + 1 + 1) w3 := (K2.ext (by (repeat' (first | (with_reducible exact Below.refl _ _) | (with_reducible refine Below.mono (by assumption) ?_) | (with_reducible refine Below.trans ?_ (Below.mono (by assumption) ?_)) | (with_reducible refine Below.alloc ?_ ?_ _) | (with_reducible refine Below.drew ?_) | (with_reducible refine below_drewN ?_ _) | (with_reducible refine Below.setCell ?_ ?_ _) | (simp only [World.size_alloc, World.size_setCell, World.size_drew, size_drewN]; omega) | omega)))).pick hG2 hR2
      have O3 : Own3 w3 lim 34 (.slice (some ⟨w2.heap.size, 0, none⟩) 0 0) [] := (Own3.made w2 #[] 0 rfl (by omega) (by omega) rfl).grown hG2 (by simp [Value.ownBlock]; omega)
      have hnv : some w3.heap.size ≠ u7.ownBlock := fun e => by
        obtain ⟨_, cs, h4⟩ := own_at K3.ot.1 e.symm
        have := (Array.getElem?_eq_some_iff.1 h4).1
        omega
      clear hG1 hG2 hR1 hR2 hc hf hz hs1 hs2
      have hd : ∃ d : Bool, decide (0 < s2) = d := ⟨_, rfl⟩
      obtain ⟨d, hd⟩ := hd
      have HK3 := Lib.hid K3
      have HO3 := Lib.hid O3
      clear K2 K3 O3
      have e3 : st.length = 3 := hst3
      go_wp2_with (at_builtin; refine wpList_append1s _ rfl _ _ 41 rfl (w3.heap.size + 1) 3 Tryd.underlying41 infoIntD rfl _ [] rfl ?_ _ w.heap.size st rfl ?_ ?_ ?_ ?_ ?_)
      · exact Own1.made (w3.alloc (.cells #[.int .i64 s1, .slice (some ⟨w2.heap.size, 0, none⟩) 0 0, .bool d] 32)) #[] 0 (by simp) (by simp) (by omega) rfl
      · have := HK3.out.os
        exact this.ext (by (repeat' (first | (with_reducible exact Below.refl _ _) | (with_reducible refine Below.mono (by assumption) ?_) | (with_reducible refine Below.trans ?_ (Below.mono (by assumption) ?_)) | (with_reducible refine Below.alloc ?_ ?_ _) | (with_reducible refine Below.drew ?_) | (with_reducible refine below_drewN ?_ _) | (with_reducible refine Below.setCell ?_ ?_ _) | (simp only [World.size_alloc, World.size_setCell, World.size_drew, size_drewN]; omega) | omega)))
      · simp; omega
      · omega
      · simp only [World.size_alloc]; omega
      · intro v' w' hq' hg'
        obtain ⟨A12, c12, rfl, hl12, hm12, hn12, hA12⟩ := own1_cut hq'
        obtain ⟨g12, rfl⟩ : ∃ g12, A12 = some ⟨g12, 0, none⟩ := by
          cases A12 with
          | none => have := (hn12 rfl).1; omega
          | some a => obtain ⟨g, rfl⟩ := hA12 a rfl; exact ⟨g, rfl⟩
        rw [e3] at hq' ⊢
        have hEw : Ext (w3.alloc (.cells #[.int .i64 s1, .slice (some ⟨w2.heap.size, 0, none⟩) 0 0, .bool d] 32)) w' :=
          Below.grown (w := (w3.alloc (.cells #[.int .i64 s1, .slice (some ⟨w2.heap.size, 0, none⟩) 0 0, .bool d] 32)).alloc (.cells #[] 3)) (by (repeat' (first | (with_reducible exact Below.refl _ _) | (with_reducible refine Below.mono (by assumption) ?_) | (with_reducible refine Below.trans ?_ (Below.mono (by assumption) ?_)) | (with_reducible refine Below.alloc ?_ ?_ _) | (with_reducible refine Below.drew ?_) | (with_reducible refine below_drewN ?_ _) | (with_reducible refine Below.setCell ?_ ?_ _) | (simp only [World.size_alloc, World.size_setCell, World.size_drew, size_drewN]; omega) | omega))) hg' (by simp only [World.size_alloc]; omega) (fun g hg => by simp [Value.ownBlock] at hg; simp only [World.size_alloc]; omega)
        have hI : Inn r lim w u7 ps (.slice (some ⟨g9, 0, none⟩) 3 c9) st (.slice (some ⟨g12, 0, none⟩) 3 c12) w3.heap.size s1 d st (some ⟨w2.heap.size, 0, none⟩) 0 [] (PP + 1 + 1) w' :=
          ⟨((HK3.out.ext (by (repeat' (first | (with_reducible exact Below.refl _ _) | (with_reducible refine Below.mono (by assumption) ?_) | (with_reducible refine Below.trans ?_ (Below.mono (by assumption) ?_)) | (with_reducible refine Below.alloc ?_ ?_ _) | (with_reducible refine Below.drew ?_) | (with_reducible refine below_drewN ?_ _) | (with_reducible refine Below.setCell ?_ ?_ _) | (simp only [World.size_alloc, World.size_setCell, World.size_drew, size_drewN]; omega) | omega)))).seen hEw (by simpa using hq') ⟨g12, rfl⟩), (Blk.new _ _ _).ext hEw, (HO3.out.ext (by (repeat' (first | (with_reducible exact Below.refl _ _) | (with_reducible refine Below.mono (by assumption) ?_) | (with_reducible refine Below.trans ?_ (Below.mono (by assumption) ?_)) | (with_reducible refine Below.alloc ?_ ?_ _) | (with_reducible refine Below.drew ?_) | (with_reducible refine below_drewN ?_ _) | (with_reducible refine Below.setCell ?_ ?_ _) | (simp only [World.size_alloc, World.size_setCell, World.size_drew, size_drewN]; omega) | omega)))).ext hEw, by omega, hnv⟩
        have hEz := hEw.size
        simp only [World.size_alloc] at hEz
        clear hq' hg' hEw hn12 hA12 hm12 HK3 HO3 HK hd
        go_wp2_with (fail)
        go_at_call 65
        refine (pick_c r (PP + 1 + 1) 5 _ hI.kp.rd (by omega) (by omega) (by omega)).mono ?_
        rintro e w4 ⟨j0, rfl, hj0, hR4, hG4⟩
        obtain ⟨hc, hf, hz, hs⟩ := gcell hG4
        (try simp only [World.size_alloc, World.size_setCell, World.size_drew, size_drewN] at hs); (first | have l0 := Nat.lt_of_lt_of_le l0 (show _ ≤ w4.heap.size by omega) | have l0 : w.heap.size < w4.heap.size := (by omega) | skip); (try have l0e := Nat.le_of_lt l0); (try have l0f := Nat.le_add_right_of_le (k := 1) l0e); (try have l1 := Nat.lt_of_lt_of_le l1 (show _ ≤ w4.heap.size by omega)); (try have l1e := Nat.le_of_lt l1); (try have l1f := Nat.le_add_right_of_le (k := 1) l1e); (try have l2 := Nat.lt_of_lt_of_le l2 (show _ ≤ w4.heap.size by omega)); (try have l2e := Nat.le_of_lt l2); (try have l2f := Nat.le_add_right_of_le (k := 1) l2e); (try have l3 := Nat.lt_of_lt_of_le l3 (show _ ≤ w4.heap.size by omega)); (try have l3e := Nat.le_of_lt l3); (try have l3f := Nat.le_add_right_of_le (k := 1) l3e)
        have hj4 := hj0 (by omega)
        have hI4 := hI.pick hG4 hR4
        have HI : HeadI r (PP + 1 + 1 + 1 + 24) (nx + 4) lim w u7 ps (.slice (some ⟨g9, 0, none⟩) 3 c9) st g12 c12 w3.heap.size s1 d j0 (.int .i64 nx) w4 :=
          ⟨nx, _, st, _, _, [], rfl, by omega, by omega, hst3, hsts, by simp; omega, (fun o ho => by cases ho), hI4⟩
        have HI := Lib.hid HI
        clear hI hI4 hG4 hR4 hc hf hz hj0
        go_wp2_with (fail)
        go_loopw [8, 13] (fun vn vj W => ∃ j : Nat, vj = .int .i64 j ∧ HeadI r (PP + 1 + 1 + 1 + 24) (nx + 4) lim w u7 ps (.slice (some ⟨g9, 0, none⟩) 3 c9) st g12 c12 w3.heap.size s1 d j vn W) (fun _ vj _ => (intOf vj).toNat)
        · exact ⟨j0, rfl, HI.out⟩
        · obtain ⟨j, rfl, ny, PQ, se, A, c, ops, rfl, hny, hPQ, hse3, hses, hol, hops, hI⟩ := hrel
          by_cases hj : j = 0
          · obtain rfl := hj
            obtain ⟨d0, d1, d2, df, dl⟩ := hI.cells
            have hwi := hI.kp.gr.size
            have HIn := Lib.hid hI
            have hrI := hI.kp.rd.lt
            clear hI HI
            cases d
            · have E7 := HIn.out.ext (W' := wr.alloc (.cells #[.int .i64 s1, .slice A ops.length c, .bool false] 32)) (by (repeat' (first | (with_reducible exact Below.refl _ _) | (with_reducible refine Below.mono (by assumption) ?_) | (with_reducible refine Below.trans ?_ (Below.mono (by assumption) ?_)) | (with_reducible refine Below.alloc ?_ ?_ _) | (with_reducible refine Below.drew ?_) | (with_reducible refine below_drewN ?_ _) | (with_reducible refine Below.setCell ?_ ?_ _) | (simp only [World.size_alloc, World.size_setCell, World.size_drew, size_drewN]; omega) | omega)))
              have hpl := fun a ha => (E7.oo.form'.2 a ha)
              have HE7 := Lib.hid E7
              have hlz : lim ≤ (wr.alloc (.cells #[.int .i64 s1, .slice A ops.length c, .bool false] 32)).heap.size := Nat.le_trans E7.lg (Nat.le_of_lt E7.bt.lt)
              have HPL := Lib.hid hpl
              clear E7 hpl
              go_wp2_with (at_builtin; refine wpList_appendP _ rfl _ _ 23 rfl Tryd.underlying23 infoTxnD rfl _ ps rfl HE7.out.kp.ot ⟨s1, A, c, ops, false⟩ (HE7.out.oo.below HE7.out.kp.lb) HPL.out hlz _ rfl ((lit_cell _ _ _ 0).trans rfl) ((lit_cell _ _ _ 1).trans rfl) ((lit_cell _ _ _ 2).trans rfl) ?_ ?_ ?_)
              · omega
              · omega
              · intro v' w' hOT' hgr'
                have K9 := HE7.out.kp.next hgr' hOT' (by omega)
                have H9 : HeadH r P w (k - 1) v' (.int .i64 ny) (.slice (some ⟨g9, 0, none⟩) 3 c9) w' :=
                  HeadH.of (K9.drop ⟨g9, rfl⟩) (by have := hgr'.size; simpa using this) (by simp; omega) (app_smallP hsm ⟨smallI_nat (n := s1) (by omega), by simp only; omega, hops⟩) hst3 hsts (by omega) (by omega)
                have H9 := Lib.hid H9
                clear K9 hOT' hgr' HE7
                go_wp2
                go_roundw
                case measure => simp [intOf]; omega
                case rel => exact ⟨k - 1, by go_num, H9.out⟩
            · skip
              go_wp2_with (fail)
              go_at_call 65
              refine (pick_c r PQ 3 _ HIn.out.kp.rd (by omega) (by omega) (by omega)).mono ?_
              rintro e w5 ⟨k5, rfl, hk5, hR5, hG5⟩
              obtain ⟨hc, hf, hz, hs⟩ := gcell hG5
              (try simp only [World.size_alloc, World.size_setCell, World.size_drew, size_drewN] at hs); (first | have l0 := Nat.lt_of_lt_of_le l0 (show _ ≤ w5.heap.size by omega) | have l0 : w.heap.size < w5.heap.size := (by omega) | skip); (try have l0e := Nat.le_of_lt l0); (try have l0f := Nat.le_add_right_of_le (k := 1) l0e); (try have l1 := Nat.lt_of_lt_of_le l1 (show _ ≤ w5.heap.size by omega)); (try have l1e := Nat.le_of_lt l1); (try have l1f := Nat.le_add_right_of_le (k := 1) l1e); (try have l2 := Nat.lt_of_lt_of_le l2 (show _ ≤ w5.heap.size by omega)); (try have l2e := Nat.le_of_lt l2); (try have l2f := Nat.le_add_right_of_le (k := 1) l2e); (try have l3 := Nat.lt_of_lt_of_le l3 (show _ ≤ w5.heap.size by omega)); (try have l3e := Nat.le_of_lt l3); (try have l3f := Nat.le_add_right_of_le (k := 1) l3e)
              have I5 := HIn.out.pick hG5 hR5
              obtain ⟨d0, d1, d2, df, dl⟩ := I5.cells
              have HI5 := Lib.hid I5
              clear I5 hc hf hz hG5 hR5 HIn hk5
              by_cases hk5' : k5 = 0
              · obtain rfl := hk5'
                have E7 := HI5.out.ext (W' := w5.alloc (.cells #[.int .i64 s1, .slice A ops.length c, .bool true] 32)) (by (repeat' (first | (with_reducible exact Below.refl _ _) | (with_reducible refine Below.mono (by assumption) ?_) | (with_reducible refine Below.trans ?_ (Below.mono (by assumption) ?_)) | (with_reducible refine Below.alloc ?_ ?_ _) | (with_reducible refine Below.drew ?_) | (with_reducible refine below_drewN ?_ _) | (with_reducible refine Below.setCell ?_ ?_ _) | (simp only [World.size_alloc, World.size_setCell, World.size_drew, size_drewN]; omega) | omega)))
                have hpl := fun a ha => (E7.oo.form'.2 a ha)
                have HE7 := Lib.hid E7
                have hlz : lim ≤ (w5.alloc (.cells #[.int .i64 s1, .slice A ops.length c, .bool true] 32)).heap.size := Nat.le_trans E7.lg (Nat.le_of_lt E7.bt.lt)
                have HPL := Lib.hid hpl
                clear E7 hpl
                go_wp2_with (at_builtin; refine wpList_appendP _ rfl _ _ 23 rfl Tryd.underlying23 infoTxnD rfl _ ps rfl HE7.out.kp.ot ⟨s1, A, c, ops, true⟩ (HE7.out.oo.below HE7.out.kp.lb) HPL.out hlz _ rfl ((lit_cell _ _ _ 0).trans rfl) ((lit_cell _ _ _ 1).trans rfl) ((lit_cell _ _ _ 2).trans rfl) ?_ ?_ ?_)
                · omega
                · omega
                · intro v' w' hOT' hgr'
                  have K9 := HE7.out.kp.next hgr' hOT' (by omega)
                  have H9 : HeadH r P w (k - 1) v' (.int .i64 ny) (.slice (some ⟨g9, 0, none⟩) 3 c9) w' :=
                    HeadH.of (K9.drop ⟨g9, rfl⟩) (by have := hgr'.size; simpa using this) (by simp; omega) (app_smallP hsm ⟨smallI_nat (n := s1) (by omega), by simp only; omega, hops⟩) hst3 hsts (by omega) (by omega)
                  have H9 := Lib.hid H9
                  clear K9 hOT' hgr' HE7
                  go_wp2
                  go_roundw
                  case measure => simp [intOf]; omega
                  case rel => exact ⟨k - 1, by go_num, H9.out⟩
              · have hk5b : 0 < k5 := by omega
                have E7 := HI5.out.ext (W' := w5.alloc (.cells #[.int .i64 s1, .slice A ops.length c, .bool true] 32)) (by (repeat' (first | (with_reducible exact Below.refl _ _) | (with_reducible refine Below.mono (by assumption) ?_) | (with_reducible refine Below.trans ?_ (Below.mono (by assumption) ?_)) | (with_reducible refine Below.alloc ?_ ?_ _) | (with_reducible refine Below.drew ?_) | (with_reducible refine below_drewN ?_ _) | (with_reducible refine Below.setCell ?_ ?_ _) | (simp only [World.size_alloc, World.size_setCell, World.size_drew, size_drewN]; omega) | omega)))
                have hpl := fun a ha => (E7.oo.form'.2 a ha)
                have HE7 := Lib.hid E7
                have hlz : lim ≤ (w5.alloc (.cells #[.int .i64 s1, .slice A ops.length c, .bool true] 32)).heap.size := Nat.le_trans E7.lg (Nat.le_of_lt E7.bt.lt)
                have HPL := Lib.hid hpl
                clear E7 hpl
                go_wp2_with (at_builtin; refine wpList_appendP _ rfl _ _ 23 rfl Tryd.underlying23 infoTxnD rfl _ ps rfl HE7.out.kp.ot ⟨s1, A, c, ops, true⟩ (HE7.out.oo.below HE7.out.kp.lb) HPL.out hlz _ rfl ((lit_cell _ _ _ 0).trans rfl) ((lit_cell _ _ _ 1).trans rfl) ((lit_cell _ _ _ 2).trans rfl) ?_ ?_ ?_)
                · omega
                · omega
                · intro v' w' hOT' hgr'
                  have K9 := HE7.out.kp.next hgr' hOT' (by omega)
                  have H9 : HeadH r P w (k - 1) v' (.int .i64 ny) (.slice (some ⟨g12, 0, none⟩) 3 c12) w' :=
                    HeadH.of (K9.take ⟨g12, rfl⟩) (by have := hgr'.size; simpa using this) (by simp; omega) (app_smallP hsm ⟨smallI_nat (n := s1) (by omega), by simp only; omega, hops⟩) hse3 hses (by omega) (by omega)
                  have H9 := Lib.hid H9
                  clear K9 hOT' hgr' HE7
                  go_wp2
                  go_roundw
                  case measure => simp [intOf]; omega
                  case rel => exact ⟨k - 1, by go_num, H9.out⟩
          · have hj1 : 0 < j := by omega
            have hrI := hI.kp.rd.lt
            have hlw2 := hI.kp.gr.size
            have hlr := hI.kp.lr
            have HIn := Lib.hid hI
            clear hI HI hj4
            go_wp2_with (fail)
            go_at_call 65
            refine (pick_c r PQ 5 _ (HIn.out.kp.rd.ext (by (repeat' (first | (with_reducible exact Below.refl _ _) | (with_reducible refine Below.mono (by assumption) ?_) | (with_reducible refine Below.trans ?_ (Below.mono (by assumption) ?_)) | (with_reducible refine Below.alloc ?_ ?_ _) | (with_reducible refine Below.drew ?_) | (with_reducible refine below_drewN ?_ _) | (with_reducible refine Below.setCell ?_ ?_ _) | (simp only [World.size_alloc, World.size_setCell, World.size_drew, size_drewN]; omega) | omega)))) (by omega) (by omega) (by omega)).mono ?_
            rintro e w5 ⟨k5, rfl, hk5, hR5, hG5⟩
            obtain ⟨hc, hf, hz, hs⟩ := gcell hG5
            (try simp only [World.size_alloc, World.size_setCell, World.size_drew, size_drewN] at hs); (first | have l0 := Nat.lt_of_lt_of_le l0 (show _ ≤ w5.heap.size by omega) | have l0 : w.heap.size < w5.heap.size := (by omega) | skip); (try have l0e := Nat.le_of_lt l0); (try have l0f := Nat.le_add_right_of_le (k := 1) l0e); (try have l1 := Nat.lt_of_lt_of_le l1 (show _ ≤ w5.heap.size by omega)); (try have l1e := Nat.le_of_lt l1); (try have l1f := Nat.le_add_right_of_le (k := 1) l1e); (try have l2 := Nat.lt_of_lt_of_le l2 (show _ ≤ w5.heap.size by omega)); (try have l2e := Nat.le_of_lt l2); (try have l2f := Nat.le_add_right_of_le (k := 1) l2e); (try have l3 := Nat.lt_of_lt_of_le l3 (show _ ≤ w5.heap.size by omega)); (try have l3e := Nat.le_of_lt l3); (try have l3f := Nat.le_add_right_of_le (k := 1) l3e)
            have hk5' := hk5 (by omega)
            obtain ⟨key, hkey, hkl⟩ := lit_five wr 3 k5 (by omega)
            have hkey5 : w5.cell? ⟨wr.heap.size, k5, none⟩ = some (.int .i64 key) := by rw [hc _ _ (by simp) (by omega)]; exact hkey
            have I5 := (HIn.out.ext (W' := wr.alloc (.cells #[.int .i64 0, .int .i64 0, .int .i64 1, .int .i64 1, .int .i64 2] 3)) (by (repeat' (first | (with_reducible exact Below.refl _ _) | (with_reducible refine Below.mono (by assumption) ?_) | (with_reducible refine Below.trans ?_ (Below.mono (by assumption) ?_)) | (with_reducible refine Below.alloc ?_ ?_ _) | (with_reducible refine Below.drew ?_) | (with_reducible refine below_drewN ?_ _) | (with_reducible refine Below.setCell ?_ ?_ _) | (simp only [World.size_alloc, World.size_setCell, World.size_drew, size_drewN]; omega) | omega)))).pick hG5 hR5
            have hr5 := hR5.lt
            clear hc hf hz hk5 hkey hG5 hR5 HIn
            have HI5 := Lib.hid I5
            clear I5
            go_wp2_with (fail)
            go_at_call 65
            refine (pick_c r (PQ + 1) 2 _ HI5.out.kp.rd (by omega) (by omega) (by omega)).mono ?_
            rintro e w6 ⟨k6, rfl, hk6, hR6, hG6⟩
            obtain ⟨hc, hf, hz, hs⟩ := gcell hG6
            (try simp only [World.size_alloc, World.size_setCell, World.size_drew, size_drewN] at hs); (first | have l0 := Nat.lt_of_lt_of_le l0 (show _ ≤ w6.heap.size by omega) | have l0 : w.heap.size < w6.heap.size := (by omega) | skip); (try have l0e := Nat.le_of_lt l0); (try have l0f := Nat.le_add_right_of_le (k := 1) l0e); (try have l1 := Nat.lt_of_lt_of_le l1 (show _ ≤ w6.heap.size by omega)); (try have l1e := Nat.le_of_lt l1); (try have l1f := Nat.le_add_right_of_le (k := 1) l1e); (try have l2 := Nat.lt_of_lt_of_le l2 (show _ ≤ w6.heap.size by omega)); (try have l2e := Nat.le_of_lt l2); (try have l2f := Nat.le_add_right_of_le (k := 1) l2e); (try have l3 := Nat.lt_of_lt_of_le l3 (show _ ≤ w6.heap.size by omega)); (try have l3e := Nat.le_of_lt l3); (try have l3f := Nat.le_add_right_of_le (k := 1) l3e)
            have I6 := HI5.out.pick hG6 hR6
            obtain ⟨z, hz9, cz, fz, lz, nez⟩ := I6.seenAt (i := key) (by omega) hses
            have hse4 : key < 3 := by omega
            by_cases hk6' : k6 = 0
            · obtain rfl := hk6'
              have I7 := I6.put (i := key) (by omega) ny
              obtain ⟨d0, d1, d2, df, dl⟩ := I7.cells
              have HI7 := Lib.hid I7
              have hz7 : w6.heap.size ≤ (w6.setCell ⟨g12, key, none⟩ (.int .i64 ny)).heap.size := by simp [World.setCell]
              have E7 := HI7.out.ext (W' := (w6.setCell ⟨g12, key, none⟩ (.int .i64 ny)).alloc (.cells #[.int .i64 2, .int .i64 key, .int .i64 ny] 34)) (by (repeat' (first | (with_reducible exact Below.refl _ _) | (with_reducible refine Below.mono (by assumption) ?_) | (with_reducible refine Below.trans ?_ (Below.mono (by assumption) ?_)) | (with_reducible refine Below.alloc ?_ ?_ _) | (with_reducible refine Below.drew ?_) | (with_reducible refine below_drewN ?_ _) | (with_reducible refine Below.setCell ?_ ?_ _) | (simp only [World.size_alloc, World.size_setCell, World.size_drew, size_drewN]; omega) | omega)))
              have HE7 := Lib.hid E7
              clear I6 I7 E7 hc hf hz hG6 hR6 HI5
              go_wp2_with (at_builtin; refine wpList_append3 _ rfl _ _ 30 rfl lim 34 Tryd.underlying30 info3D rfl _ ops rfl HE7.out.oo _ 2 key ny rfl ?_ ?_ ?_ ?_ ?_ ?_)
              · exact (lit_cell_set _ _ _ _ _ 0).trans rfl
              · exact (lit_cell_set _ _ _ _ _ 1).trans rfl
              · exact (lit_cell_set _ _ _ _ _ 2).trans rfl
              · omega
              · exact Nat.le_trans HE7.out.lg (Nat.le_of_lt HE7.out.bt.lt)
              · intro v' w' hown' hgrow
                obtain ⟨f1, f2, f3⟩ := HE7.out.appCells hgrow
                obtain ⟨ops', hops'⟩ : ∃ o, o = ops ++ [(⟨2, key, ny⟩ : T3)] := ⟨_, rfl⟩
                rw [← hops'] at hown'
                obtain ⟨A', c', rfl, _, _⟩ := hown'.form
                have I8 := HE7.out.app hgrow hown'
                have H9 : HeadI r (PP + 1 + 1 + 1 + 24) (nx + 4) lim w u7 ps (.slice (some ⟨g9, 0, none⟩) 3 c9) st g12 c12 w3.heap.size s1 d (j - 1) (.int .i64 ((ny : Int) + 1)) _ :=
                  HeadI.of (ny + 1) _ _ _ _ _ (by omega) (by omega) (by simpa using hse3) (set_small hses (smallI_nat (by omega)) key) (by subst hops'; simp; omega) (by subst hops'; exact app_small hops (smallOp (by omega) (by omega) (by omega) (by omega) (by omega) (by omega))) I8
                have H9 := Lib.hid H9
                clear hops' I8 hown' hgrow HE7 HI7 d0 d1 d2 df dl cz fz lz
                go_wp2
                go_roundw
                case measure => simp [intOf]; omega
                case rel => exact ⟨j - 1, by go_num, H9.out⟩
            · have hk6b : ((k6 : Int) == 0) = false := by simpa using hk6'
              have HI6 := Lib.hid I6
              have hw56 := hG6.size
              clear I6 hc hf hz hG6 hR6 HI5 hk6
              go_wp2_with (fail)
              go_at_call 65
              refine (pick_c r (PQ + 1 + 1) 5 _ HI6.out.kp.rd (by omega) (by omega) (by omega)).mono ?_
              rintro e w7 ⟨k7, rfl, hk7, hR7, hG7⟩
              obtain ⟨hc, hf, hz, hs⟩ := gcell hG7
              (try simp only [World.size_alloc, World.size_setCell, World.size_drew, size_drewN] at hs); (first | have l0 := Nat.lt_of_lt_of_le l0 (show _ ≤ w7.heap.size by omega) | have l0 : w.heap.size < w7.heap.size := (by omega) | skip); (try have l0e := Nat.le_of_lt l0); (try have l0f := Nat.le_add_right_of_le (k := 1) l0e); (try have l1 := Nat.lt_of_lt_of_le l1 (show _ ≤ w7.heap.size by omega)); (try have l1e := Nat.le_of_lt l1); (try have l1f := Nat.le_add_right_of_le (k := 1) l1e); (try have l2 := Nat.lt_of_lt_of_le l2 (show _ ≤ w7.heap.size by omega)); (try have l2e := Nat.le_of_lt l2); (try have l2f := Nat.le_add_right_of_le (k := 1) l2e); (try have l3 := Nat.lt_of_lt_of_le l3 (show _ ≤ w7.heap.size by omega)); (try have l3e := Nat.le_of_lt l3); (try have l3f := Nat.le_add_right_of_le (k := 1) l3e)
              have I7 := HI6.out.pick hG7 hR7
              have HI7 := Lib.hid I7
              clear I7 hc hf hz hG7 hR7 HI6 hk7
              go_upto_if 72 with (fail)
              go_cut [15] from 40 to 87 (fun v W => ∃ (z : Int) (PR : Nat), v = .int .i64 z ∧ SmallI z ∧ PR ≤ PQ + 5 ∧ Inn r lim w u7 ps (.slice (some ⟨g9, 0, none⟩) 3 c9) st (.slice (some ⟨g12, 0, none⟩) 3 c12) w3.heap.size s1 d se A c ops PR W)
              case first =>
                by_cases hk7' : k7 = 0
                · obtain rfl := hk7'
                  go_wp2_with (fail)
                  go_at_call 65
                  refine (pick_c r (PQ + 1 + 1 + 1) (ny + 1) _ HI7.out.kp.rd (by omega) (by omega) (by omega)).mono ?_
                  rintro e w8 ⟨k8, rfl, hk8, hR8, hG8⟩
                  obtain ⟨hc, hf, hz, hs⟩ := gcell hG8
                  (try simp only [World.size_alloc, World.size_setCell, World.size_drew, size_drewN] at hs); (first | have l0 := Nat.lt_of_lt_of_le l0 (show _ ≤ w8.heap.size by omega) | have l0 : w.heap.size < w8.heap.size := (by omega) | skip); (try have l0e := Nat.le_of_lt l0); (try have l0f := Nat.le_add_right_of_le (k := 1) l0e); (try have l1 := Nat.lt_of_lt_of_le l1 (show _ ≤ w8.heap.size by omega)); (try have l1e := Nat.le_of_lt l1); (try have l1f := Nat.le_add_right_of_le (k := 1) l1e); (try have l2 := Nat.lt_of_lt_of_le l2 (show _ ≤ w8.heap.size by omega)); (try have l2e := Nat.le_of_lt l2); (try have l2f := Nat.le_add_right_of_le (k := 1) l2e); (try have l3 := Nat.lt_of_lt_of_le l3 (show _ ≤ w8.heap.size by omega)); (try have l3e := Nat.le_of_lt l3); (try have l3f := Nat.le_add_right_of_le (k := 1) l3e)
                  have hk8' := hk8 (by omega)
                  have I8 := HI7.out.pick hG8 hR8
                  have HI8 := Lib.hid I8
                  clear I8 hc hf hz hG8 hR8 HI7 hk8
                  go_wp2_with (fail)
                  go_at_call 65
                  refine (pick_c r (PQ + 1 + 1 + 1 + 1) 2 _ HI8.out.kp.rd (by omega) (by omega) (by omega)).mono ?_
                  rintro e w9 ⟨k9, rfl, hk9, hR9, hG9⟩
                  obtain ⟨hc, hf, hz, hs⟩ := gcell hG9
                  (try simp only [World.size_alloc, World.size_setCell, World.size_drew, size_drewN] at hs); (first | have l0 := Nat.lt_of_lt_of_le l0 (show _ ≤ w9.heap.size by omega) | have l0 : w.heap.size < w9.heap.size := (by omega) | skip); (try have l0e := Nat.le_of_lt l0); (try have l0f := Nat.le_add_right_of_le (k := 1) l0e); (try have l1 := Nat.lt_of_lt_of_le l1 (show _ ≤ w9.heap.size by omega)); (try have l1e := Nat.le_of_lt l1); (try have l1f := Nat.le_add_right_of_le (k := 1) l1e); (try have l2 := Nat.lt_of_lt_of_le l2 (show _ ≤ w9.heap.size by omega)); (try have l2e := Nat.le_of_lt l2); (try have l2f := Nat.le_add_right_of_le (k := 1) l2e); (try have l3 := Nat.lt_of_lt_of_le l3 (show _ ≤ w9.heap.size by omega)); (try have l3e := Nat.le_of_lt l3); (try have l3f := Nat.le_add_right_of_le (k := 1) l3e)
                  have I9 := HI8.out.pick hG9 hR9
                  have HI9 := Lib.hid I9
                  clear I9 hc hf hz hG9 hR9 HI8 hk9
                  by_cases hk9' : k9 = 0
                  · obtain rfl := hk9'
                    go_wp2
                    go_meet
                    exact ⟨0, _, rfl, smallI_nat (n := 0) (by omega), by omega, HI9.out⟩
                  · have hk9b : ((k9 : Int) == 0) = false := by simpa using hk9'
                    go_wp2
                    go_meet
                    exact ⟨k8, _, rfl, smallI_nat (by omega), by omega, HI9.out⟩
                · have hk7b : ((k7 : Int) == 0) = false := by simpa using hk7'
                  go_wp2
                  go_meet
                  exact ⟨z, _, rfl, hz9, by omega, HI7.out⟩
              case rest =>
                obtain ⟨y, PR, rfl, hy, hPR, hI⟩ := hcut
                obtain ⟨hy1, hy2⟩ := hy
                obtain ⟨d0, d1, d2, df, dl⟩ := hI.cells
                have E7 := hI.ext (W' := wc.alloc (.cells #[.int .i64 1, .int .i64 key, .int .i64 y] 34)) (by (repeat' (first | (with_reducible exact Below.refl _ _) | (with_reducible refine Below.mono (by assumption) ?_) | (with_reducible refine Below.trans ?_ (Below.mono (by assumption) ?_)) | (with_reducible refine Below.alloc ?_ ?_ _) | (with_reducible refine Below.drew ?_) | (with_reducible refine below_drewN ?_ _) | (with_reducible refine Below.setCell ?_ ?_ _) | (simp only [World.size_alloc, World.size_setCell, World.size_drew, size_drewN]; omega) | omega)))
                have HE7 := Lib.hid E7
                clear hI E7 cz fz
                go_wp2_with (at_builtin; refine wpList_append3 _ rfl _ _ 30 rfl lim 34 Tryd.underlying30 info3D rfl _ ops rfl HE7.out.oo _ 1 key y rfl ?_ ?_ ?_ ?_ ?_ ?_)
                · exact (lit_cell _ _ _ 0).trans rfl
                · exact (lit_cell _ _ _ 1).trans rfl
                · exact (lit_cell _ _ _ 2).trans rfl
                · omega
                · exact Nat.le_trans HE7.out.lg (Nat.le_of_lt HE7.out.bt.lt)
                · intro v' w' hown' hgrow
                  obtain ⟨f1, f2, f3⟩ := HE7.out.appCells hgrow
                  obtain ⟨ops', hops'⟩ : ∃ o, o = ops ++ [(⟨1, key, y⟩ : T3)] := ⟨_, rfl⟩
                  rw [← hops'] at hown'
                  obtain ⟨A', c', rfl, _, _⟩ := hown'.form
                  have I8 := HE7.out.app hgrow hown'
                  have H9 : HeadI r (PP + 1 + 1 + 1 + 24) (nx + 4) lim w u7 ps (.slice (some ⟨g9, 0, none⟩) 3 c9) st g12 c12 w3.heap.size s1 d (j - 1) (.int .i64 ny) _ :=
                    HeadI.of ny _ _ _ _ _ (by omega) (by omega) hse3 hses (by subst hops'; simp; omega) (by subst hops'; exact app_small hops (smallOp (by omega) (by omega) (by omega) (by omega) (by omega) (by omega))) I8
                  have H9 := Lib.hid H9
                  clear hops' I8 hown' hgrow HE7 d0 d1 d2 df dl
                  go_wp2
                  go_roundw
                  case measure => simp [intOf]; omega
                  case rel => exact ⟨j - 1, by go_num, H9.out⟩
end Go.Proofs.YtdgfipoibnjhaaaDoor
