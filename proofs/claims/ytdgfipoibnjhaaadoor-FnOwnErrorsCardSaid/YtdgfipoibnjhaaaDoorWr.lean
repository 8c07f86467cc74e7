/-
  Who writes what: the program's map of writers, and its HistoryValid.
-/
import Derived.Test.YtdgfipoibnjhaaaDoorHist
import Derived.Test.YtdgfipoibnjhaaaDoorMapS
namespace Go.Proofs.YtdgfipoibnjhaaaDoor
set_option linter.unusedSimpArgs false
set_option linter.unusedVariables false
set_option maxRecDepth 100000
open Go.RowKit

/-- all operations with their transactions' numbers -/
def prs (h : List TxnT) : List (Nat × T3) := h.zipIdx.flatMap fun p => p.1.ops.map fun o => (p.2, o)
theorem prs_take {h : List TxnT} {k : Nat} {t : TxnT} (hk : h[k]? = some t) : prs (h.take (k + 1)) = prs (h.take k) ++ t.ops.map fun o => (k, o) := by
  have hl : k < h.length := by
    rcases Nat.lt_or_ge k h.length with hl | hl
    · exact hl
    · rw [List.getElem?_eq_none hl] at hk; cases hk
  unfold prs
  rw [List.take_add_one, hk]
  simp [List.zipIdx_append, List.length_take, Nat.min_eq_left (Nat.le_of_lt hl)]
theorem prs_ops (h : List TxnT) : (prs h).map (·.2) = allOps h := by
  unfold prs allOps
  rw [List.map_flatMap]
  simp only [List.map_map, Function.comp_def, List.map_id']
  have e : ∀ (l : List TxnT) (n : Nat), (l.zipIdx n).flatMap (fun p => p.1.ops) = l.flatMap fun t => t.ops := by
    intro l
    induction l with
    | nil => intro n; rfl
    | cons t l ih => intro n; simp [List.zipIdx_cons, ih]
  exact e h 0
theorem prs_split (h : List TxnT) {k : Nat} {t : TxnT} (hk : h[k]? = some t) {j : Nat} : ∃ r, prs h = (prs (h.take k) ++ (t.ops.take j).map fun o => (k, o)) ++ r := by
  have hl : k < h.length := by
    rcases Nat.lt_or_ge k h.length with hl | hl
    · exact hl
    · rw [List.getElem?_eq_none hl] at hk; cases hk
  have e1 : ∃ r, prs h = prs (h.take (k + 1)) ++ r := by
    refine ⟨((h.drop (k + 1)).zipIdx (k + 1)).flatMap fun p => p.1.ops.map fun o => (p.2, o), ?_⟩
    unfold prs
    conv => lhs; rw [← List.take_append_drop (k + 1) h, List.zipIdx_append]
    rw [List.flatMap_append, List.length_take, Nat.min_eq_left (by omega), Nat.zero_add]
  obtain ⟨r, e1⟩ := e1
  refine ⟨((t.ops.drop j).map fun o => (k, o)) ++ r, ?_⟩
  rw [e1, prs_take hk]
  simp only [List.append_assoc]
  rw [← List.append_assoc (List.map _ _) (List.map _ _) r, ← List.map_append, List.take_append_drop]

def wstep : Option (Int × Int → Option Value) → Nat × T3 → Option (Int × Int → Option Value)
  | none, _ => none
  | some f, p => if p.2.a = 2 then (if (f (p.2.b, p.2.c)).isSome then none else some fun k' => if k' = (p.2.b, p.2.c) then some (.int .i64 p.1) else f k') else some f
def wfold (l : List (Nat × T3)) : Option (Int × Int → Option Value) := l.foldl wstep (some fun _ => none)
theorem wfold_snoc (l : List (Nat × T3)) (p : Nat × T3) : wfold (l ++ [p]) = wstep (wfold l) p := by simp [wfold]
theorem wfold_none (l m : List (Nat × T3)) (h : wfold l = none) : wfold (l ++ m) = none := by
  unfold wfold at h ⊢
  rw [List.foldl_append, h]
  induction m with
  | nil => rfl
  | cons p m ih => exact ih

def once (L : List T3) : Prop := ∀ o ∈ L, o.a = 2 → L.count o ≤ 1
theorem once_snoc (L : List T3) (x : T3) : once (L ++ [x]) ↔ once L ∧ (x.a = 2 → x ∉ L) := by
  constructor
  · intro h
    constructor
    · intro o ho h2
      have := h o (by simp [ho]) h2
      rw [List.count_append] at this
      omega
    · intro h2 hx
      have := h x (by simp) h2
      have h3 := List.count_pos_iff.2 hx
      simp [List.count_append] at this
      omega
  · rintro ⟨h1, h2⟩ o ho ho2
    rw [List.count_append]
    by_cases e : x = o
    · subst e
      have h3 := List.count_eq_zero.2 (h2 ho2)
      simp [h3]
    · have h0 : [x].count o = 0 := List.count_eq_zero.2 (by simpa using fun h => e h.symm)
      have hm : o ∈ L := by
        rcases List.mem_append.1 ho with hm | hm
        · exact hm
        · simp at hm; exact absurd hm.symm e
      have := h1 o hm ho2
      omega

/-- who writes a value to a key first -/
def wr1 (l : List (Nat × T3)) (k : Int × Int) : Option Value := (l.find? fun p => decide (p.2 = (⟨2, k.1, k.2⟩ : T3))).map fun p => Value.int .i64 p.1
theorem wr1_some (l : List (Nat × T3)) (k : Int × Int) : (wr1 l k).isSome = true ↔ (⟨2, k.1, k.2⟩ : T3) ∈ l.map (·.2) := by
  unfold wr1
  rw [Option.isSome_map, List.find?_isSome]
  simp
theorem wr1_snoc (l : List (Nat × T3)) (p : Nat × T3) (k : Int × Int) : wr1 (l ++ [p]) k = (wr1 l k).or (if p.2 = (⟨2, k.1, k.2⟩ : T3) then some (.int .i64 p.1) else none) := by
  unfold wr1
  rw [List.find?_append]
  cases (l.find? fun p => decide (p.2 = (⟨2, k.1, k.2⟩ : T3))) with
  | none => by_cases e : p.2 = (⟨2, k.1, k.2⟩ : T3) <;> simp [e]
  | some x => simp

theorem wfold_rev (m : List (Nat × T3)) : (wfold m.reverse = some (wr1 m.reverse) ∧ once (m.reverse.map (·.2))) ∨ (wfold m.reverse = none ∧ ¬ once (m.reverse.map (·.2))) := by
  induction m with
  | nil => exact .inl ⟨rfl, fun o ho => by simp at ho⟩
  | cons p m ih =>
    simp only [List.reverse_cons]
    rw [wfold_snoc, List.map_append, List.map_cons, List.map_nil, once_snoc]
    obtain ⟨n, a, b, c⟩ := p
    rcases ih with ⟨e, ho⟩ | ⟨e, ho⟩
    · rw [e]
      have hs := wr1_some m.reverse (b, c)
      simp only at hs
      simp only [wstep]
      by_cases h2 : a = 2
      · subst h2
        by_cases hx : (wr1 m.reverse (b, c)).isSome = true
        · right
          exact ⟨by simp [hx], fun h => h.2 rfl (hs.1 hx)⟩
        · left
          refine ⟨?_, ho, fun _ h => hx (hs.2 h)⟩
          rw [if_pos rfl, if_neg hx]
          congr 1
          funext k
          rw [wr1_snoc]
          obtain ⟨k1, k2⟩ := k
          by_cases hk : (k1, k2) = (b, c)
          · cases hk
            have hn : wr1 m.reverse (b, c) = none := by simpa using hx
            simp [hn]
          · rw [if_neg hk]
            have : ¬ ((⟨2, b, c⟩ : T3) = ⟨2, k1, k2⟩) := fun h => by cases h; exact hk rfl
            simp [this]
      · left
        refine ⟨?_, ho, fun h => absurd h h2⟩
        rw [if_neg h2]
        congr 1
        funext k
        rw [wr1_snoc]
        have : ¬ ((⟨a, b, c⟩ : T3) = ⟨2, k.1, k.2⟩) := fun h => by cases h; exact h2 rfl
        simp [this]
    · right
      rw [e]
      exact ⟨rfl, fun h => ho h.1⟩
theorem wfold_char (l : List (Nat × T3)) : (wfold l = some (wr1 l) ∧ once (l.map (·.2))) ∨ (wfold l = none ∧ ¬ once (l.map (·.2))) := by
  have h := wfold_rev l.reverse
  rwa [List.reverse_reverse] at h
theorem once_all (h : List TxnT) : (h.all fun t => t.ops.all (opOnce h)) = true ↔ once (allOps h) := by
  unfold once allOps
  simp only [List.all_eq_true, List.mem_flatMap]
  constructor
  · rintro H ⟨a, b, c⟩ ⟨t, ht, ho⟩ h2
    have := H t ht _ ho
    simp only at h2
    subst h2
    simp [opOnce, allOps] at this
    have h4 := of_decide_eq_false this
    omega
  · intro H t ht o ho
    have := H o ⟨t, ht, ho⟩
    obtain ⟨a, b, c⟩ := o
    unfold opOnce allOps
    simp only at this
    by_cases h2 : a = 2
    · subst h2
      have := this rfl
      simp
      exact this
    · simp [h2]
theorem histv_eq (h : List TxnT) : histv h = (decide (h.length ≤ 6) && h.all txnv && (wfold (prs h)).isSome) := by
  have e1 : (h.all (txnOnce h)) = (h.all txnv && h.all fun t => t.ops.all (opOnce h)) := by
    unfold txnOnce
    generalize (opOnce h) = f
    induction h with
    | nil => rfl
    | cons t h ih => simp only [List.all_cons, ih]; cases txnv t <;> cases t.ops.all f <;> cases h.all txnv <;> simp
  have e2 : (h.all fun t => t.ops.all (opOnce h)) = (wfold (prs h)).isSome := by
    have h1 := once_all h
    rcases wfold_char (prs h) with ⟨e, ho⟩ | ⟨e, ho⟩
    · rw [prs_ops] at ho
      rw [e, h1.2 ho]; rfl
    · rw [prs_ops] at ho
      rw [e]
      simpa using fun hh => ho (h1.1 hh)
  unfold histv
  rw [e1, e2]
  cases h.all txnv <;> cases (wfold (prs h)).isSome <;> simp

theorem histTxn1_c (t : TxnT) (S : Nat → Prop) (A : Option Addr) (c : Nat) (w : World) (hx : Ops S w A t.ops) (hn : t.ops.length ≤ 1048576) :
    Calls Tryd.prog 75 #[.agg #[.int .i64 t.sess, .slice A t.ops.length c, .bool t.done]] w fun e' w' => e' = .returned (.bool (!txnv t)) ∧ Ext w w' := by
  go_enter Tryd.func75, Tryd.ntmps75
  go_wp2_with (go_at_call 52; refine (implTxnValid_c t _ _ _ _ (hx.ext (by (repeat' (first | (with_reducible exact Below.refl _ _) | (with_reducible refine Below.mono (by assumption) ?_) | (with_reducible refine Below.trans ?_ (Below.mono (by assumption) ?_)) | (with_reducible refine Below.alloc ?_ ?_ _) | (with_reducible refine Below.drew ?_) | (with_reducible refine below_drewN ?_ _) | (with_reducible refine Below.setCell ?_ ?_ _) | (simp only [World.size_alloc, World.size_setCell, World.size_drew, size_drewN]; omega) | omega)))) hn).mono ?_; rintro e w1 ⟨rfl, hb⟩; obtain ⟨hc, hf, hz, hs⟩ := bcell hb; (try simp only [World.size_alloc, World.size_setCell, World.size_drew, size_drewN] at hs); (first | have l0 := Nat.lt_of_lt_of_le l0 (show _ ≤ w1.heap.size by omega) | have l0 : w.heap.size < w1.heap.size := (by omega) | skip); (try have l0e := Nat.le_of_lt l0); (try have l0f := Nat.le_add_right_of_le (k := 1) l0e); (try have l1 := Nat.lt_of_lt_of_le l1 (show _ ≤ w1.heap.size by omega)); (try have l1e := Nat.le_of_lt l1); (try have l1f := Nat.le_add_right_of_le (k := 1) l1e); (try have l2 := Nat.lt_of_lt_of_le l2 (show _ ≤ w1.heap.size by omega)); (try have l2e := Nat.le_of_lt l2); (try have l2f := Nat.le_add_right_of_le (k := 1) l2e); (try have l3 := Nat.lt_of_lt_of_le l3 (show _ ≤ w1.heap.size by omega)); (try have l3e := Nat.le_of_lt l3); (try have l3f := Nat.le_add_right_of_le (k := 1) l3e))
  go_ret
  exact ⟨rfl, by (repeat' (first | (with_reducible exact Below.refl _ _) | (with_reducible refine Below.mono (by assumption) ?_) | (with_reducible refine Below.trans ?_ (Below.mono (by assumption) ?_)) | (with_reducible refine Below.alloc ?_ ?_ _) | (with_reducible refine Below.drew ?_) | (with_reducible refine below_drewN ?_ _) | (with_reducible refine Below.setCell ?_ ?_ _) | (simp only [World.size_alloc, World.size_setCell, World.size_drew, size_drewN]; omega) | omega))⟩

set_option maxHeartbeats 1000000 in
theorem idxTxn_c (h : List TxnT) (S : Nat → Prop) (A : Option Addr) (c : Nat) (w : World) (hx : Txns S w A h) (hsm : Small h) :
    Calls Tryd.prog 100 #[.slice A h.length c, .func (.func 75) #[] #[]] w (IdxOf (fun t => !txnv t) h w) := by
  have hn := hsm.len
  go_enter Tryd.func100, Tryd.ntmps100
  go_wp2
  go_loopw [8] (fun i wr => ∃ k : Nat, k ≤ h.length ∧ i = .int .i64 k ∧ AllTo txnv h k ∧ Ext w wr) (fun i _ => h.length - (intOf i).toNat)
  case atStart => exact ⟨0, Nat.zero_le _, rfl, AllTo.zero, Below.refl _ _⟩
  case round =>
    obtain ⟨k, hk, rfl, hall, hE⟩ := hrel
    have hEz := hE.size
    have HA := Lib.hid hall
    clear hall
    by_cases hlt : k < h.length
    · obtain ⟨s, ops, d, A', cap, b, off, hxk, rfl, _, hb0, hO, c0, c1, c2⟩ := (hx.ext hE).at_ hlt
      have hon := hsm.ops hxk
      simp only at hon
      have HX := Lib.hid hxk
      clear hxk
      go_wp2_with (go_at_call 75; refine (histTxn1_c ⟨s, ops, d⟩ _ _ _ _ (hO.ext (by (repeat' (first | (with_reducible exact Below.refl _ _) | (with_reducible refine Below.mono (by assumption) ?_) | (with_reducible refine Below.trans ?_ (Below.mono (by assumption) ?_)) | (with_reducible refine Below.alloc ?_ ?_ _) | (with_reducible refine Below.drew ?_) | (with_reducible refine below_drewN ?_ _) | (with_reducible refine Below.setCell ?_ ?_ _) | (simp only [World.size_alloc, World.size_setCell, World.size_drew, size_drewN]; omega) | omega)))) hon).mono ?_; rintro e w1 ⟨rfl, hb⟩; obtain ⟨hc, hf, hz, hs⟩ := bcell hb; (try simp only [World.size_alloc, World.size_setCell, World.size_drew, size_drewN] at hs); (first | have l0 := Nat.lt_of_lt_of_le l0 (show _ ≤ w1.heap.size by omega) | have l0 : w.heap.size < w1.heap.size := (by omega) | skip); (try have l0e := Nat.le_of_lt l0); (try have l0f := Nat.le_add_right_of_le (k := 1) l0e); (try have l1 := Nat.lt_of_lt_of_le l1 (show _ ≤ w1.heap.size by omega)); (try have l1e := Nat.le_of_lt l1); (try have l1f := Nat.le_add_right_of_le (k := 1) l1e); (try have l2 := Nat.lt_of_lt_of_le l2 (show _ ≤ w1.heap.size by omega)); (try have l2e := Nat.le_of_lt l2); (try have l2f := Nat.le_add_right_of_le (k := 1) l2e); (try have l3 := Nat.lt_of_lt_of_le l3 (show _ ≤ w1.heap.size by omega)); (try have l3e := Nat.le_of_lt l3); (try have l3f := Nat.le_add_right_of_le (k := 1) l3e))
      case roundEnd =>
        have hv : txnv ⟨s, ops, d⟩ = true := by simp_all
        exact ⟨⟨k + 1, by omega, by go_num, HA.out.step HX.out hv, by (repeat' (first | (with_reducible exact Below.refl _ _) | (with_reducible refine Below.mono (by assumption) ?_) | (with_reducible refine Below.trans ?_ (Below.mono (by assumption) ?_)) | (with_reducible refine Below.alloc ?_ ?_ _) | (with_reducible refine Below.drew ?_) | (with_reducible refine below_drewN ?_ _) | (with_reducible refine Below.setCell ?_ ?_ _) | (simp only [World.size_alloc, World.size_setCell, World.size_drew, size_drewN]; omega) | omega))⟩, by simp [intOf]; omega⟩
      go_ret
      have hv : (fun t => !txnv t) (⟨s, ops, d⟩ : TxnT) = true := by assumption
      exact ⟨_, rfl, by rw [any_true HX.out hv]; simp, by (repeat' (first | (with_reducible exact Below.refl _ _) | (with_reducible refine Below.mono (by assumption) ?_) | (with_reducible refine Below.trans ?_ (Below.mono (by assumption) ?_)) | (with_reducible refine Below.alloc ?_ ?_ _) | (with_reducible refine Below.drew ?_) | (with_reducible refine below_drewN ?_ _) | (with_reducible refine Below.setCell ?_ ?_ _) | (simp only [World.size_alloc, World.size_setCell, World.size_drew, size_drewN]; omega) | omega))⟩
    · obtain rfl : k = h.length := by omega
      have hav : h.any (fun t => !txnv t) = false := by
        have := HA.out.all
        rw [List.any_eq_false]
        intro x hx
        simpa using List.all_eq_true.1 this x hx
      have HV := Lib.hid hav
      clear hav
      go_wp2
      go_ret
      exact ⟨_, rfl, by rw [HV.out]; rfl, by (repeat' (first | (with_reducible exact Below.refl _ _) | (with_reducible refine Below.mono (by assumption) ?_) | (with_reducible refine Below.trans ?_ (Below.mono (by assumption) ?_)) | (with_reducible refine Below.alloc ?_ ?_ _) | (with_reducible refine Below.drew ?_) | (with_reducible refine below_drewN ?_ _) | (with_reducible refine Below.setCell ?_ ?_ _) | (simp only [World.size_alloc, World.size_setCell, World.size_drew, size_drewN]; omega) | omega))⟩
theorem hasTxn_c (h : List TxnT) (S : Nat → Prop) (A : Option Addr) (c : Nat) (w : World) (hx : Txns S w A h) (hsm : Small h) :
    Calls Tryd.prog 74 #[.slice A h.length c, .func (.func 75) #[] #[]] w fun e w' => e = .returned (.bool (!h.all txnv)) ∧ Ext w w' := by
  have hal : h.any (fun t => !txnv t) = !h.all txnv := by rw [List.not_all_eq_any_not]
  rw [← hal]
  have HL := Lib.hid hal
  clear hal
  go_enter Tryd.func74, Tryd.ntmps74
  go_wp2_with (go_at_call 100; refine (idxTxn_c h S A c _ (hx.ext (by (repeat' (first | (with_reducible exact Below.refl _ _) | (with_reducible refine Below.mono (by assumption) ?_) | (with_reducible refine Below.trans ?_ (Below.mono (by assumption) ?_)) | (with_reducible refine Below.alloc ?_ ?_ _) | (with_reducible refine Below.drew ?_) | (with_reducible refine below_drewN ?_ _) | (with_reducible refine Below.setCell ?_ ?_ _) | (simp only [World.size_alloc, World.size_setCell, World.size_drew, size_drewN]; omega) | omega)))) hsm).mono ?_; rintro e w1 ⟨r, rfl, hr, hb⟩; have HR := Lib.hid hr; clear hr)
  go_ret
  exact ⟨ret_bool HR.out, by (repeat' (first | (with_reducible exact Below.refl _ _) | (with_reducible refine Below.mono (by assumption) ?_) | (with_reducible refine Below.trans ?_ (Below.mono (by assumption) ?_)) | (with_reducible refine Below.alloc ?_ ?_ _) | (with_reducible refine Below.drew ?_) | (with_reducible refine below_drewN ?_ _) | (with_reducible refine Below.setCell ?_ ?_ _) | (simp only [World.size_alloc, World.size_setCell, World.size_drew, size_drewN]; omega) | omega))⟩

theorem pre_succ (l : List (Nat × T3)) (k : Nat) {ops : List T3} {j : Nat} {x : T3} (hx : ops[j]? = some x) : l ++ (ops.take (j + 1)).map (fun o => (k, o)) = (l ++ (ops.take j).map fun o => (k, o)) ++ [(k, x)] := by
  rw [List.take_add_one, hx]
  simp
/-- what writers hands back -/
def WrOf (h : List TxnT) (w : World) (e : Ending) (w' : World) : Prop :=
  (∃ b n, wfold (prs h) = some (wr1 (prs h)) ∧ e = .returned (.tuple #[.map (some b), .bool true]) ∧ MapF ekW w' b (wr1 (prs h)) n ∧ n ≤ total h ∧ w.heap.size ≤ b ∧ Ext w w') ∨
  (wfold (prs h) = none ∧ e = .returned (.tuple #[.map none, .bool false]) ∧ Ext w w')

theorem box32 {w w' : World} {a b c d e : Value} {t u : TypeId} (h : Ext ((w.alloc (.cells #[a, b, c] t)).alloc (.cells #[d, e] u)) w') : w'.cell? ⟨w.heap.size, 0, none⟩ = some a ∧ w'.cell? ⟨w.heap.size, 1, none⟩ = some b ∧ w'.cell? ⟨w.heap.size, 2, none⟩ = some c ∧ w'.cell? ⟨w.heap.size + 1, 0, none⟩ = some d ∧ w'.cell? ⟨w.heap.size + 1, 1, none⟩ = some e := by
  refine ⟨?_, ?_, ?_, ?_, ?_⟩ <;> (rw [h.cell (by simp <;> omega)]; go_simp)
set_option maxHeartbeats 4000000 in
theorem writers_c (h : List TxnT) (S : Nat → Prop) (A : Option Addr) (c : Nat) (w : World) (hx : Txns S w A h) (hsm : Small h) :
    Calls Tryd.prog 76 #[.slice A h.length c] w (WrOf h w) := by
  have hmm := @run_makeMap Tryd.prog
  have hn := hsm.len
  go_enter Tryd.func76, Tryd.ntmps76
  go_wp2
  have hM : MapF ekW (w.alloc (.map #[] 0)) w.heap.size (fun _ => none) 0 := MapF.made w
  go_loopw [15] (fun i wr => ∃ k : Nat, k ≤ h.length ∧ i = .int .i64 k ∧ (∃ f n, wfold (prs (h.take k)) = some f ∧ MapF ekW wr w.heap.size f n ∧ n ≤ total (h.take k)) ∧ Ext w wr) (fun i _ => h.length - (intOf i).toNat)
  case atStart => exact ⟨0, Nat.zero_le _, rfl, ⟨_, 0, rfl, hM, by simp [total]⟩, by (repeat' (first | (with_reducible exact Below.refl _ _) | (with_reducible refine Below.mono (by assumption) ?_) | (with_reducible refine Below.trans ?_ (Below.mono (by assumption) ?_)) | (with_reducible refine Below.alloc ?_ ?_ _) | (with_reducible refine Below.drew ?_) | (with_reducible refine below_drewN ?_ _) | (with_reducible refine Below.setCell ?_ ?_ _) | (simp only [World.size_alloc, World.size_setCell, World.size_drew, size_drewN]; omega) | omega))⟩
  case round =>
    obtain ⟨k, hk, rfl, ⟨f, n, hf, hmap, hnn⟩, hE⟩ := hrel
    clear hM hmm
    have hE0 := hE
    have hsr := hE.size
    have HF := Lib.hid hf
    clear hf
    by_cases hlt : k < h.length
    · obtain ⟨s, ops, d, A', cap, b, off, hxk, rfl, _, hb0, hO, c0, c1, c2⟩ := hx.at_ hlt
      have f0 := hE0.keep hb0 c0
      have f1 := hE0.keep hb0 c1
      have f2 := hE0.keep hb0 c2
      have hon := hsm.ops hxk
      simp only at hon
      have HX := Lib.hid hxk
      clear hxk
      have hOA : A' = A' := rfl
      have ht := total_take h k _ HX.out
      simp only at ht
      go_wp2
      obtain ⟨wo, rfl⟩ : ∃ wo : World, wo = wr := ⟨_, rfl⟩
      have hms := hmap.lt
      go_loopw [23] (fun i wr => ∃ j : Nat, j ≤ ops.length ∧ i = .int .i64 j ∧ (∃ f n, wfold (prs (h.take k) ++ (ops.take j).map fun o => (k, o)) = some f ∧ MapF ekW wr w.heap.size f n ∧ n ≤ total (h.take k) + j) ∧ Ext w wr ∧ wo.heap.size < wr.heap.size) (fun i _ => ops.length - (intOf i).toNat)
      case atStart => exact ⟨0, Nat.zero_le _, rfl, ⟨f, n, by simpa using HF.out, hmap.ext (by (repeat' (first | (with_reducible exact Below.refl _ _) | (with_reducible refine Below.mono (by assumption) ?_) | (with_reducible refine Below.trans ?_ (Below.mono (by assumption) ?_)) | (with_reducible refine Below.alloc ?_ ?_ _) | (with_reducible refine Below.drew ?_) | (with_reducible refine below_drewN ?_ _) | (with_reducible refine Below.setCell ?_ ?_ _) | (simp only [World.size_alloc, World.size_setCell, World.size_drew, size_drewN]; omega) | omega))), by omega⟩, by (repeat' (first | (with_reducible exact Below.refl _ _) | (with_reducible refine Below.mono (by assumption) ?_) | (with_reducible refine Below.trans ?_ (Below.mono (by assumption) ?_)) | (with_reducible refine Below.alloc ?_ ?_ _) | (with_reducible refine Below.drew ?_) | (with_reducible refine below_drewN ?_ _) | (with_reducible refine Below.setCell ?_ ?_ _) | (simp only [World.size_alloc, World.size_setCell, World.size_drew, size_drewN]; omega) | omega)), by simp⟩
      case round =>
        obtain ⟨j, hj, rfl, ⟨g2, n2, hf2, hmap2, hnn2⟩, hE2, hsz⟩ := hrel
        clear hmap
        have HF2 := Lib.hid hf2
        clear hf2
        have hE3 := hE2
        have hms2 := hmap2.lt
        by_cases hlt2 : j < ops.length
        · obtain ⟨x0, x1, x2, b2, off2, hyk, rfl, _, hb2, d0, d1, d2⟩ := (hO.ext hE3).at_ hlt2
          have HY := Lib.hid hyk
          clear hyk
          go_wp2_with (first
            | (at_lookup; refine wpList_lookF _ rfl _ _ 90 true rfl Tryd.underlying90 write_keylaw (z := .int .i64 0) (fun W => Tryd.zeroValue3 W) _ g2 n2 rfl (hmap2.ext (by (repeat' (first | (with_reducible exact Below.refl _ _) | (with_reducible refine Below.mono (by assumption) ?_) | (with_reducible refine Below.trans ?_ (Below.mono (by assumption) ?_)) | (with_reducible refine Below.alloc ?_ ?_ _) | (with_reducible refine Below.drew ?_) | (with_reducible refine below_drewN ?_ _) | (with_reducible refine Below.setCell ?_ ?_ _) | (simp only [World.size_alloc, World.size_setCell, World.size_drew, size_drewN]; omega) | omega)))) (x1, x2) rfl ?_)
            | (go_at_call 87; refine (writes_c _ _ _ _).mono ?_; rintro e w1 ⟨rfl, hb⟩; obtain ⟨hc, hf, hz, hs⟩ := bcell hb; (try simp only [World.size_alloc, World.size_setCell, World.size_drew, size_drewN] at hs); (first | have l0 := Nat.lt_of_lt_of_le l0 (show _ ≤ w1.heap.size by omega) | have l0 : w.heap.size < w1.heap.size := (by omega) | skip); (try have l0e := Nat.le_of_lt l0); (try have l0f := Nat.le_add_right_of_le (k := 1) l0e); (try have l1 := Nat.lt_of_lt_of_le l1 (show _ ≤ w1.heap.size by omega)); (try have l1e := Nat.le_of_lt l1); (try have l1f := Nat.le_add_right_of_le (k := 1) l1e); (try have l2 := Nat.lt_of_lt_of_le l2 (show _ ≤ w1.heap.size by omega)); (try have l2e := Nat.le_of_lt l2); (try have l2f := Nat.le_add_right_of_le (k := 1) l2e); (try have l3 := Nat.lt_of_lt_of_le l3 (show _ ≤ w1.heap.size by omega)); (try have l3e := Nat.le_of_lt l3); (try have l3f := Nat.le_add_right_of_le (k := 1) l3e); first | (obtain ⟨y0, y1, y2, y3, y4⟩ := box32 hb; have hr1 : Ext wr w1 := (by (repeat' (first | (with_reducible exact Below.refl _ _) | (with_reducible refine Below.mono (by assumption) ?_) | (with_reducible refine Below.trans ?_ (Below.mono (by assumption) ?_)) | (with_reducible refine Below.alloc ?_ ?_ _) | (with_reducible refine Below.drew ?_) | (with_reducible refine below_drewN ?_ _) | (with_reducible refine Below.setCell ?_ ?_ _) | (simp only [World.size_alloc, World.size_setCell, World.size_drew, size_drewN]; omega) | omega))); have l8 : wr.heap.size + 1 < w1.heap.size := (by have h8 := hb.size; simp only [World.size_alloc] at h8; omega)) | (have z0 := hb.keep (by omega) y0; have z1 := hb.keep (by omega) y1; have z2 := hb.keep (by omega) y2; have z3 := hb.keep (by omega) y3; have z4 := hb.keep (by omega) y4; have hr2 := hr1.tr hb))
            | (at_mapUpdate; refine wpList_putF _ rfl _ _ _ 90 rfl Tryd.underlying90 write_keylaw _ g2 n2 rfl (hmap2.ext hr2) (x1, x2) _ rfl rfl ?_))
          · rename_i h2 hq
            go_ret2
            right
            refine ⟨?_, rfl, hE3.tr hr1⟩
            obtain ⟨r, er⟩ := prs_split h HX.out (j := j + 1)
            rw [er]
            refine wfold_none _ _ ?_
            rw [pre_succ _ _ HY.out, wfold_snoc, HF2.out]
            simp only [wstep]
            rw [if_pos h2, if_pos hq]
          · rename_i h2 hq
            intro w2 hmap3 hgrow
            have hE5 : Ext w w1 := hE2.tr hr2
            have hE4 := Below.grown hE5 hgrow hE5.size (fun g hg => by cases hg; omega)
            have hgs := hgrow.size
            have hr2s := hr2.size
            clear hmap2
            go_wp2
            go_roundw
            case measure => simp [intOf]; omega
            refine ⟨j + 1, by omega, by go_num, ⟨_, _, ?_, hmap3, by omega⟩, hE4, by omega⟩
            rw [pre_succ _ _ HY.out, wfold_snoc, HF2.out]
            simp only [wstep]
            rw [if_pos h2, if_neg (by rw [hq]; decide)]
          · rename_i h2 hq
            have hr2s := hr2.size
            refine ⟨⟨j + 1, by omega, by go_num, ⟨g2, n2, ?_, hmap2.ext hr2, by omega⟩, hE2.tr hr2, by omega⟩, by simp [intOf]; omega⟩
            rw [pre_succ _ _ HY.out, wfold_snoc, HF2.out]
            simp only [wstep]
            rw [if_neg h2]
        · obtain rfl : j = ops.length := by omega
          go_wp2
          refine ⟨⟨k + 1, by omega, by go_num, ⟨g2, n2, ?_, hmap2, by omega⟩, hE2⟩, by simp [intOf]; omega⟩
          rw [prs_take HX.out]
          have := HF2.out
          rwa [List.take_length] at this
    · obtain rfl : k = h.length := by omega
      rw [List.take_length] at HF hnn
      go_wp2
      go_ret2
      left
      have e : wfold (prs h) = some (wr1 (prs h)) ∧ f = wr1 (prs h) := by
        rcases wfold_char (prs h) with ⟨e, _⟩ | ⟨e, _⟩
        · have := HF.out; rw [e] at this; cases this; exact ⟨e, rfl⟩
        · have := HF.out; rw [e] at this; cases this
      obtain ⟨e1, rfl⟩ := e
      exact ⟨_, n, e1, rfl, hmap, hnn, Nat.le_refl _, by (repeat' (first | (with_reducible exact Below.refl _ _) | (with_reducible refine Below.mono (by assumption) ?_) | (with_reducible refine Below.trans ?_ (Below.mono (by assumption) ?_)) | (with_reducible refine Below.alloc ?_ ?_ _) | (with_reducible refine Below.drew ?_) | (with_reducible refine below_drewN ?_ _) | (with_reducible refine Below.setCell ?_ ?_ _) | (simp only [World.size_alloc, World.size_setCell, World.size_drew, size_drewN]; omega) | omega))⟩

set_option maxHeartbeats 2000000 in
theorem implHistoryValid_c (h : List TxnT) (S : Nat → Prop) (A : Option Addr) (c : Nat) (w : World) (hx : Txns S w A h) (hsm : Small h) :
    Calls Tryd.prog 36 #[.slice A h.length c] w fun e w' => e = .returned (.bool (histv h)) ∧ Ext w w' := by
  have hn := hsm.len
  rw [histv_eq]
  go_enter Tryd.func36, Tryd.ntmps36
  go_wp2_with (first
    | (go_at_call 74; refine (hasTxn_c h _ _ _ _ (hx.ext (by (repeat' (first | (with_reducible exact Below.refl _ _) | (with_reducible refine Below.mono (by assumption) ?_) | (with_reducible refine Below.trans ?_ (Below.mono (by assumption) ?_)) | (with_reducible refine Below.alloc ?_ ?_ _) | (with_reducible refine Below.drew ?_) | (with_reducible refine below_drewN ?_ _) | (with_reducible refine Below.setCell ?_ ?_ _) | (simp only [World.size_alloc, World.size_setCell, World.size_drew, size_drewN]; omega) | omega)))) hsm).mono ?_; rintro e w1 ⟨rfl, hb⟩; obtain ⟨hc, hf, hz, hs⟩ := bcell hb; (try simp only [World.size_alloc, World.size_setCell, World.size_drew, size_drewN] at hs); (first | have l0 := Nat.lt_of_lt_of_le l0 (show _ ≤ w1.heap.size by omega) | have l0 : w.heap.size < w1.heap.size := (by omega) | skip); (try have l0e := Nat.le_of_lt l0); (try have l0f := Nat.le_add_right_of_le (k := 1) l0e); (try have l1 := Nat.lt_of_lt_of_le l1 (show _ ≤ w1.heap.size by omega)); (try have l1e := Nat.le_of_lt l1); (try have l1f := Nat.le_add_right_of_le (k := 1) l1e); (try have l2 := Nat.lt_of_lt_of_le l2 (show _ ≤ w1.heap.size by omega)); (try have l2e := Nat.le_of_lt l2); (try have l2f := Nat.le_add_right_of_le (k := 1) l2e); (try have l3 := Nat.lt_of_lt_of_le l3 (show _ ≤ w1.heap.size by omega)); (try have l3e := Nat.le_of_lt l3); (try have l3f := Nat.le_add_right_of_le (k := 1) l3e))
    | (go_at_call 76; refine (writers_c h _ _ _ _ (hx.ext (by (repeat' (first | (with_reducible exact Below.refl _ _) | (with_reducible refine Below.mono (by assumption) ?_) | (with_reducible refine Below.trans ?_ (Below.mono (by assumption) ?_)) | (with_reducible refine Below.alloc ?_ ?_ _) | (with_reducible refine Below.drew ?_) | (with_reducible refine below_drewN ?_ _) | (with_reducible refine Below.setCell ?_ ?_ _) | (simp only [World.size_alloc, World.size_setCell, World.size_drew, size_drewN]; omega) | omega)))) hsm).mono ?_; rintro e w1 (⟨b, n, hR, rfl, hm, hmn, hmb, hb⟩ | ⟨hR, rfl, hb⟩)))
  · rename_i h1 h2
    have h3 : h.all txnv = false := by
      rcases h2 with h2 | h2
      · omega
      · simpa using h2
    go_ret
    exact ⟨ret_bool (by rw [h3]; simp), by (repeat' (first | (with_reducible exact Below.refl _ _) | (with_reducible refine Below.mono (by assumption) ?_) | (with_reducible refine Below.trans ?_ (Below.mono (by assumption) ?_)) | (with_reducible refine Below.alloc ?_ ?_ _) | (with_reducible refine Below.drew ?_) | (with_reducible refine below_drewN ?_ _) | (with_reducible refine Below.setCell ?_ ?_ _) | (simp only [World.size_alloc, World.size_setCell, World.size_drew, size_drewN]; omega) | omega))⟩
  · rename_i h1 h2
    have h3 : h.all txnv = true := by simpa using h2.2
    go_ret
    exact ⟨ret_bool (by rw [h3, hR]; simp; omega), by (repeat' (first | (with_reducible exact Below.refl _ _) | (with_reducible refine Below.mono (by assumption) ?_) | (with_reducible refine Below.trans ?_ (Below.mono (by assumption) ?_)) | (with_reducible refine Below.alloc ?_ ?_ _) | (with_reducible refine Below.drew ?_) | (with_reducible refine below_drewN ?_ _) | (with_reducible refine Below.setCell ?_ ?_ _) | (simp only [World.size_alloc, World.size_setCell, World.size_drew, size_drewN]; omega) | omega))⟩
  · rename_i h1 h2
    go_ret
    exact ⟨ret_bool (by rw [hR]; simp), by (repeat' (first | (with_reducible exact Below.refl _ _) | (with_reducible refine Below.mono (by assumption) ?_) | (with_reducible refine Below.trans ?_ (Below.mono (by assumption) ?_)) | (with_reducible refine Below.alloc ?_ ?_ _) | (with_reducible refine Below.drew ?_) | (with_reducible refine below_drewN ?_ _) | (with_reducible refine Below.setCell ?_ ?_ _) | (simp only [World.size_alloc, World.size_setCell, World.size_drew, size_drewN]; omega) | omega))⟩
  · rename_i h1
    have h3 : decide (h.length ≤ 6) = false := by simp; omega
    go_ret
    exact ⟨ret_bool (by rw [h3]; rfl), by (repeat' (first | (with_reducible exact Below.refl _ _) | (with_reducible refine Below.mono (by assumption) ?_) | (with_reducible refine Below.trans ?_ (Below.mono (by assumption) ?_)) | (with_reducible refine Below.alloc ?_ ?_ _) | (with_reducible refine Below.drew ?_) | (with_reducible refine below_drewN ?_ _) | (with_reducible refine Below.setCell ?_ ?_ _) | (simp only [World.size_alloc, World.size_setCell, World.size_drew, size_drewN]; omega) | omega))⟩
end Go.Proofs.YtdgfipoibnjhaaaDoor
