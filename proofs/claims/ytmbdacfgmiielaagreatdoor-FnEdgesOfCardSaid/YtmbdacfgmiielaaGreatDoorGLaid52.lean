/-
  Contracts of the comparisons of lists: two lists that read as the same are the same.
-/
import Derived.Test.YtmbdacfgmiielaaGreatDoorGLevQ51
import Derived.Test.YtmbdacfgmiielaaGreatDoorCards
import Derived.Test.YtmbdacfgmiielaaGreatDoorTie
import Derived.OpenShut
import Derived.Deep.DeepHandedRow
import Derived.Lib.LaidTab
import Derived.Test.YtmbdacfgmiielaaGreatDoorEd
import Derived.Test.YtmbdacfgmiielaaGreatDoorFirst
import Derived.Test.YtmbdacfgmiielaaGreatDoorGHist7
import Derived.Test.YtmbdacfgmiielaaGreatDoorGInts6
import Derived.Test.YtmbdacfgmiielaaGreatDoorPlace
import Derived.Deep.QuietTactic
import Derived.BigQuiet
/-
  A world in which the listed variables hold what the rows list: for the rows' witnesses.
-/
namespace Go.Proofs.YtmbdacfgmiielaaGreatDoor.Law
set_option linter.unusedSimpArgs false
set_option linter.unusedVariables false
set_option maxRecDepth 100000
open Go.ChangeShapes Go.WideShapes Go.ChangeAt Go.RowKit Go.Joins

theorem bytes_cap {P : Program} {w : World} {r : Reach} {b : Nat} {t e : TypeId} {A : Option Addr} {n c : Nat} (hs : P.underlying t = some (.slice e)) (h : Value.okWide P w r b t (.slice A n c)) : n ≤ c := by
  simp only [Value.okWide, hs, Cell.okWide, Cell.ok] at h
  cases A with
  | none =>
    have : n = 0 := by
      cases n with
      | zero => rfl
      | succ n => simp at h
    omega
  | some a => exact h.1
def tabCells {H : Type} (d : DataW H) : Array Value := match d with
  | .agg l => (l.map fun x => match x with | .lit (.int k n) => Value.int k n | _ => undef).toArray
  | _ => #[]
def layTab (cs : Array Value) : Obj → Obj
  | .cells _ t frozen => .cells cs t frozen
  | o => o
noncomputable def laidWorld (os : Os) : World :=
  let w0 := World.holding Tryz.prog os ⟨#[], #[], []⟩
  { w0 with heap := (((w0.heap.modify 0 (layTab (tabCells (H := Unit) Rows.laid_internal_strconv_uint64pow10))).modify 1 (layTab (tabCells (H := Unit) Rows.laid_math_bits_deBruijn32tab))).modify 2 (layTab (tabCells (H := Unit) Rows.laid_math_bits_deBruijn64tab))) }
end Go.Proofs.YtmbdacfgmiielaaGreatDoor.Law
/-
  Plain facts: the edges of a history with orders are valid, between two committed transactions; those of reads do not hang on the orders.
-/
namespace Go.Proofs.YtmbdacfgmiielaaGreatDoor
set_option linter.unusedSimpArgs false
set_option linter.unusedVariables false
set_option maxRecDepth 100000
open Go.RowKit

/-- an edge of a read -/
def rdE (h : List TxnT) (e : T3) : Prop := ∃ n ∈ dnT h h.length, ∃ t, h[n.toNat]? = some t ∧ ∃ o ∈ frs t.ops t.ops.length, e ∈ putV h (wrN h o.b o.c) n 2
theorem wes_kind {h : List TxnT} {key : Int} {o : List Int} {e : T3} : ∀ n, e ∈ wes h key o n → e.c = 1 ∧ dnB h e.a = true ∧ dnB h e.b = true ∧ e.a ≠ e.b
  | 0, hm => by cases hm
  | n + 1, hm => by
    unfold wes at hm
    rcases List.mem_append.1 hm with hm | hm
    · exact wes_kind n hm
    · split at hm
      · obtain ⟨rfl, h1, h2, h3⟩ := putV_mem hm
        exact ⟨rfl, h1, h2, h3⟩
      · cases hm
theorem wesR_kind {h : List TxnT} {R : List (List Int)} {e : T3} : ∀ k, e ∈ wesR h R k → e.c = 1 ∧ dnB h e.a = true ∧ dnB h e.b = true ∧ e.a ≠ e.b
  | 0, hm => by cases hm
  | k + 1, hm => by
    unfold wesR at hm
    rcases List.mem_append.1 hm with hm | hm
    · exact wesR_kind k hm
    · split at hm
      · exact wes_kind _ hm
      · cases hm
theorem over_kind {h : List TxnT} {n key : Int} {v : Option Int} {e : T3} (hm : e ∈ overV h n key v) : e.c = 3 ∧ dnB h e.a = true ∧ dnB h e.b = true ∧ e.a ≠ e.b := by
  cases v with
  | none => cases hm
  | some v =>
    obtain ⟨rfl, h1, h2, h3⟩ := putV_mem hm
    exact ⟨rfl, h1, h2, h3⟩
theorem rawE_done {h : List TxnT} {R : List (List Int)} {e : T3} (he : e ∈ rawE h R) : (1 ≤ e.c ∧ e.c ≤ 3) ∧ dnB h e.a = true ∧ dnB h e.b = true ∧ e.a ≠ e.b := by
  rcases List.mem_append.1 he with he | he
  · obtain ⟨h1, h2⟩ := wesR_kind 3 he
    exact ⟨by omega, h2⟩
  · simp only [rdesD, List.mem_flatMap] at he
    obtain ⟨n, _, he⟩ := he
    split at he
    · simp only [rdes, List.mem_flatMap, rde, List.mem_append] at he
      obtain ⟨o, _, he | he⟩ := he
      · obtain ⟨rfl, h2⟩ := putV_mem he
        exact ⟨by simp, h2⟩
      · obtain ⟨h1, h2⟩ := over_kind he
        exact ⟨by omega, h2⟩
    · cases he
theorem rawE_read {h : List TxnT} {R : List (List Int)} {e : T3} (hc : e.c = 2) : e ∈ rawE h R ↔ rdE h e := by
  constructor
  · intro he
    rcases List.mem_append.1 he with he | he
    · have := (wesR_kind 3 he).1; omega
    · simp only [rdesD, List.mem_flatMap] at he
      obtain ⟨n, hn, he⟩ := he
      split at he
      · rename_i t ht
        simp only [rdes, List.mem_flatMap, rde, List.mem_append] at he
        obtain ⟨o, ho, he | he⟩ := he
        · exact ⟨n, hn, t, ht, o, ho, he⟩
        · have := (over_kind he).1; omega
      · cases he
  · rintro ⟨n, hn, t, ht, o, ho, he⟩
    refine List.mem_append_right _ ?_
    simp only [rdesD, List.mem_flatMap]
    refine ⟨n, hn, ?_⟩
    rw [ht]
    simp only [rdes, List.mem_flatMap, rde, List.mem_append]
    exact ⟨o, ho, .inl he⟩
/-- how many edges of reads -/
def cnt2 (L : List T3) : Nat := (L.filter fun e => decide (e.c = 2)).length
theorem cnt2_same {h : List TxnT} {R R' : List (List Int)} (h1 : ordV h R = true) (h2 : ordV h R' = true) : cnt2 (edgesV h R) = cnt2 (edgesV h R') := by
  unfold cnt2 edgesV
  rw [if_pos h1, if_pos h2, List.filter_filter, List.filter_filter]
  congr 1
  apply List.filter_congr
  intro e _
  by_cases hc : e.c = 2
  · have : (decide (e ∈ rawE h R)) = decide (e ∈ rawE h R') := decide_eq_decide.2 ((rawE_read hc).trans (rawE_read hc).symm)
    rw [this]
  · simp [hc]
theorem cnt2_le (L : List T3) : cnt2 L ≤ L.length := List.length_filter_le _ _
theorem cnt2_take {L : List T3} {k : Nat} {e : T3} (hk : L[k]? = some e) : cnt2 (L.take (k + 1)) = cnt2 (L.take k) + (if e.c = 2 then 1 else 0) := by
  unfold cnt2
  rw [List.take_add_one, hk, List.filter_append, List.length_append]
  congr 1
  by_cases hc : e.c = 2 <;> simp [hc]
theorem edges_at {h : List TxnT} {R : List (List Int)} {i : Nat} {e : T3} (he : (edgesV h R)[i]? = some e) : ∃ (a b : Nat) (t u : TxnT), e = ⟨a, b, e.c⟩ ∧ h[a]? = some t ∧ h[b]? = some u ∧ t.done = true ∧ u.done = true := by
  have hm := List.mem_of_getElem? he
  unfold edgesV at hm
  split at hm
  · have hr := of_decide_eq_true (List.mem_filter.1 hm).2
    obtain ⟨_, h1, h2, _⟩ := rawE_done hr
    obtain ⟨a, t, e1, h3, h4⟩ := dnB_at h1
    obtain ⟨b, u, e2, h5, h6⟩ := dnB_at h2
    exact ⟨a, b, t, u, by rw [← e1, ← e2], h3, h5, h4, h6⟩
  · cases hm
theorem edges_ok {h : List TxnT} {R : List (List Int)} (hv : histv h = true) : edgesValid (h.length : Int) (edgesV h R) = true := by
  have hl := histv_len hv
  unfold edgesValid
  rw [show wrap64 ((h.length : Int) - 1) = (h.length : Int) - 1 from by unfold wrap64; omega]
  simp only [Bool.and_eq_true, List.all_eq_true, decide_eq_true_eq]
  refine ⟨fun e he => ?_, inB_iff.2 (by omega), edgesV_len h R⟩
  unfold edgesV at he
  split at he
  · have hr := of_decide_eq_true (List.mem_filter.1 he).2
    obtain ⟨h0, h1, h2, h3⟩ := rawE_done hr
    obtain ⟨a, t, e1, h4, _⟩ := dnB_at h1
    obtain ⟨b, u, e2, h6, _⟩ := dnB_at h2
    have l1 := (List.getElem?_eq_some_iff.1 h4).1
    have l2 := (List.getElem?_eq_some_iff.1 h6).1
    unfold edv
    simp only [Bool.and_eq_true, inB_iff, Bool.not_eq_true', beq_eq_false_iff_ne, ne_eq]
    omega
  · cases he
theorem first_ok {h : List TxnT} (hv : histv h = true) : ordV h (firstV h) = true := by
  have e : firstV h = [instd h 0, instd h 1, instd h 2] := by unfold firstV; rw [if_pos hv]
  rw [e]
  refine ordV_true hv rfl (fun k l hk hl => ?_)
  have : l = instd h ((k : Nat) : Int) := by
    obtain rfl | rfl | rfl : k = 0 ∨ k = 1 ∨ k = 2 := by omega
    all_goals simpa using hl.symm
  subst this
  exact (l7v_perm (instd_nodup h k)).2 (List.Perm.refl _)
end Go.Proofs.YtmbdacfgmiielaaGreatDoor
namespace Go.Proofs.YtmbdacfgmiielaaGreatDoor
set_option linter.unusedSimpArgs false
set_option linter.unusedVariables false
set_option maxRecDepth 100000
open Go.RowKit

theorem neqEdge_run (a b c a' b' c' : Int) (w : World) : (binOp .neq 34 (.agg #[.int .i64 a, .int .i64 b, .int .i64 c]) (.agg #[.int .i64 a', .int .i64 b', .int .i64 c'])).run Tryz.prog w = .ok (.bool (!decide ((⟨a, b, c⟩ : T3) = ⟨a', b', c'⟩))) w := by
  have u3 := Tryz.underlying3
  have hS : Tryz.prog.underlying 34 = some (.struct (Tryz.prog.fieldsOf 34)) := by kernel_rfl
  have hp : Tryz.prog.stoodInHeld 34 = false := by kernel_rfl
  rw [run_neq_struct, show (10000 : Nat) = 9999 + 1 from rfl, run_equalIn_agg w 9999 34 _ _ hS hp]
  simp only [Program.fieldsOf, Tryz.underlying34]
  go_simp
  by_cases h1 : a = a' <;> by_cases h2 : b = b' <;> by_cases h3 : c = c' <;> simp [h1, h2, h3]
theorem neqEdge_guard : Tryz.prog.eqGuardType Tryz.prog.depth 34 = false := by kernel_rfl
set_option maxHeartbeats 1000000 in
theorem sameEdges_c (xs : List T3) (S S' : Nat → Prop) (A B : Option Addr) (c d : Nat) (w : World) (hx : Ops S w A xs) (hy : Ops S' w B xs) (hn : xs.length ≤ 1048576) :
    Calls Tryz.prog 8 #[.slice A xs.length c, .slice B xs.length d] w fun e w' => e = .returned (.bool true) ∧ Ext w w' := by
  have e1 : ((xs.length : Int) != (xs.length : Int)) = false := by simp
  have heq := neqEdge_run
  have hgd := neqEdge_guard
  go_enter Tryz.func8, Tryz.ntmps8
  go_wp2
  go_loopw [5] (fun i wr => ∃ k : Nat, k ≤ xs.length ∧ i = .int .i64 k ∧ Ext w wr) (fun i _ => xs.length - (intOf i).toNat)
  case atStart => exact ⟨0, Nat.zero_le _, rfl, Below.refl _ _⟩
  case round =>
    obtain ⟨k, hk, rfl, hE⟩ := hrel
    by_cases hlt : k < xs.length
    · obtain ⟨x0, x1, x2, b, off, hxk, rfl, _, hb0, c0, c1, c2⟩ := (hx.ext hE).at_ hlt
      obtain ⟨y0, y1, y2, b', off', hyk, rfl, _, hb0', d0, d1, d2⟩ := (hy.ext hE).at_ hlt
      rw [hxk] at hyk
      cases hyk
      clear hxk
      go_wp2
      go_quiet (fail)
      go_wp2
      go_roundw
      case rel => exact ⟨k + 1, by omega, by go_num, below_drewN hE _⟩
      case measure => simp [intOf]; omega
    · obtain rfl : k = xs.length := by omega
      go_wp2
      go_ret
      exact ⟨rfl, hE⟩
end Go.Proofs.YtmbdacfgmiielaaGreatDoor
