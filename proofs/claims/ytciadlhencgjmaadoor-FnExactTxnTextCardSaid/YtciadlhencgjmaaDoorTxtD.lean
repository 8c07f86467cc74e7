/-
  Texts of transactions and histories: plain facts; slices of strings of a call's own.
-/
import Derived.Test.YtciadlhencgjmaaDoorText
import Derived.Test.YtciadlhencgjmaaDoorRes
import Derived.Test.YtciadlhencgjmaaDoorHist
import Derived.Lib.Join
namespace Go.Proofs.YtciadlhencgjmaaDoor
set_option linter.unusedSimpArgs false
set_option linter.unusedVariables false
set_option maxRecDepth 100000
open Go.RowKit

/-- a text's bytes -/
abbrev bl (b : ByteArray) : List UInt8 := b.data.toList
theorem bl_app (a b : ByteArray) : bl (a ++ b) = bl a ++ bl b := by simp [bl]
theorem bl_inj {a b : ByteArray} (h : bl a = bl b) : a = b := by
  obtain ⟨⟨a⟩⟩ := a
  obtain ⟨⟨b⟩⟩ := b
  simp only [bl] at h
  subst h
  rfl
theorem inter_snoc (sep : List UInt8) (ws : List (List UInt8)) (x : List UInt8) (h : ws ≠ []) : sep.intercalate (ws ++ [x]) = sep.intercalate ws ++ sep ++ x := by
  induction ws with
  | nil => exact absurd rfl h
  | cons a r ih =>
    cases r with
    | nil => simp [List.intercalate, List.intersperse]
    | cons b r =>
      have h2 := ih (by simp)
      have e : ∀ (z : List (List UInt8)), sep.intercalate (a :: b :: z) = a ++ sep ++ sep.intercalate (b :: z) := fun z => by simp [List.intercalate, List.intersperse]
      rw [List.cons_append, List.cons_append, e, e, ← List.cons_append, h2]
      simp
/-- the words of a transaction -/
def wdT (t : TxnT) : List ByteArray := (⟨#[115]⟩ ++ ⟨(Lib.decDigits t.sess.toNat).toArray⟩) :: (if t.done then ⟨#[111, 107]⟩ else ⟨#[111, 102, 102]⟩) :: t.ops.map optx
/-- the text of a transaction with its first k operations -/
def txL (t : TxnT) : Nat → ByteArray
  | 0 => ⟨#[115]⟩ ++ ⟨(Lib.decDigits t.sess.toNat).toArray⟩ ++ (if t.done then ⟨#[32, 111, 107]⟩ else ⟨#[32, 111, 102, 102]⟩)
  | k + 1 => match t.ops[k]? with
    | some o => txL t k ++ ⟨#[32]⟩ ++ optx o
    | none => txL t k
theorem txL_succ {t : TxnT} {k : Nat} {o : T3} (h : t.ops[k]? = some o) : txL t (k + 1) = txL t k ++ ⟨#[32]⟩ ++ optx o := by
  conv => lhs; unfold txL
  rw [h]
theorem txL_join (t : TxnT) (k : Nat) (hk : k ≤ t.ops.length) : bl (txL t k) = Lib.join ((wdT ⟨t.sess, t.ops.take k, t.done⟩).map bl) [32] := by
  induction k with
  | zero =>
    unfold txL wdT Lib.join
    rw [bl_app, bl_app]
    simp only [List.take_zero, List.map_nil, List.map_cons, List.intercalate, List.intersperse]
    rw [bl_app]
    cases t.done <;> simp [bl]
  | succ k ih =>
    have hlt : k < t.ops.length := by omega
    have he := List.getElem?_eq_getElem hlt
    rw [txL_succ he, bl_app, bl_app, ih (by omega)]
    have hw : wdT ⟨t.sess, t.ops.take (k + 1), t.done⟩ = wdT ⟨t.sess, t.ops.take k, t.done⟩ ++ [optx t.ops[k]] := by
      unfold wdT
      simp only
      rw [List.take_add_one, he]
      simp only [Option.toList, List.map_append, List.map_cons, List.map_nil, List.cons_append]
    rw [hw, List.map_append]
    unfold Lib.join
    rw [List.map_cons, List.map_nil, inter_snoc _ _ _ (by simp [wdT])]
theorem optx_size (o : T3) : (optx o).size ≤ 6 := by
  unfold optx
  split
  · rename_i h
    have hbd : 0 ≤ o.b ∧ o.b < 100 ∧ 0 ≤ o.c ∧ o.c < 100 := by
      simp only [opv, inB, Bool.and_eq_true, decide_eq_true_eq] at h
      omega
    have g2 : ByteArray.size ⟨(Lib.decDigits o.b.toNat).toArray⟩ ≤ 2 := dec_size (by omega)
    have g3 : ByteArray.size ⟨(Lib.decDigits o.c.toNat).toArray⟩ ≤ 2 := dec_size (by omega)
    have g1 : (letr o.a).size ≤ 1 := by unfold letr; split <;> exact Nat.le_refl 1
    have g4 : ByteArray.size ⟨#[61]⟩ = 1 := rfl
    simp only [ByteArray.size_append]
    omega
  · exact Nat.zero_le _
theorem txL_size (t : TxnT) (hs : 0 ≤ t.sess ∧ t.sess < 100) (k : Nat) : (txL t k).size ≤ 7 + 7 * k := by
  induction k with
  | zero =>
    unfold txL
    have g2 : ByteArray.size ⟨(Lib.decDigits t.sess.toNat).toArray⟩ ≤ 2 := dec_size (by omega)
    have g1 : ByteArray.size ⟨#[115]⟩ = 1 := rfl
    have g3 : (if t.done then (⟨#[32, 111, 107]⟩ : ByteArray) else ⟨#[32, 111, 102, 102]⟩).size ≤ 4 := by
      cases t.done
      · exact Nat.le_refl 4
      · exact (show 3 ≤ 4 by omega)
    simp only [ByteArray.size_append]
    omega
  | succ k ih =>
    unfold txL
    split
    · rename_i o _
      have h1 := optx_size o
      have g1 : ByteArray.size ⟨#[32]⟩ = 1 := rfl
      simp only [ByteArray.size_append]
      omega
    · omega
/-- a transaction's text -/
def txtx (t : TxnT) : ByteArray := if txnv t then txL t t.ops.length else ⟨#[]⟩
theorem txtx_join {t : TxnT} (h : txnv t = true) : (⟨(Lib.join ((wdT t).map bl) [32]).toArray⟩ : ByteArray) = txtx t := by
  have h1 := txL_join t t.ops.length (Nat.le_refl _)
  rw [List.take_length] at h1
  apply bl_inj
  unfold txtx
  rw [if_pos h, h1]
theorem txnv_sess {t : TxnT} (h : txnv t = true) : 0 ≤ t.sess ∧ t.sess < 4 ∧ t.ops.length ≤ 6 := by
  simp only [txnv, inB, Bool.and_eq_true, decide_eq_true_eq] at h
  omega
theorem txtx_size (t : TxnT) : (txtx t).size ≤ 49 := by
  unfold txtx
  split
  · rename_i h
    have h1 := txnv_sess h
    have h2 := txL_size t (by omega) t.ops.length
    omega
  · exact Nat.zero_le _
/-- the text of the first k transactions of a history -/
def thL (h : List TxnT) : Nat → ByteArray
  | 0 => ⟨#[]⟩
  | k + 1 => match h[k]? with
    | some t => (if 0 < k then thL h k ++ ⟨#[59, 32]⟩ else thL h k) ++ txtx t
    | none => thL h k
theorem thL_succ {h : List TxnT} {k : Nat} {t : TxnT} (hk : h[k]? = some t) : thL h (k + 1) = (if 0 < k then thL h k ++ ⟨#[59, 32]⟩ else thL h k) ++ txtx t := by
  conv => lhs; unfold thL
  rw [hk]
theorem thL_size (h : List TxnT) (k : Nat) : (thL h k).size ≤ 51 * k := by
  induction k with
  | zero => exact Nat.zero_le _
  | succ k ih =>
    unfold thL
    split
    · rename_i t _
      have h1 := txtx_size t
      have g1 : ByteArray.size ⟨#[59, 32]⟩ = 2 := rfl
      split
      · simp only [ByteArray.size_append]
        omega
      · simp only [ByteArray.size_append]
        omega
    · omega
theorem thL_join (h : List TxnT) (k : Nat) (hk : k ≤ h.length) : bl (thL h k) = Lib.join (((h.take k).map txtx).map bl) [59, 32] := by
  induction k with
  | zero => rfl
  | succ k ih =>
    have hlt : k < h.length := by omega
    have he := List.getElem?_eq_getElem hlt
    have hw : ((h.take (k + 1)).map txtx).map bl = ((h.take k).map txtx).map bl ++ [bl (txtx h[k])] := by
      rw [List.take_add_one, he]
      simp only [Option.toList, List.map_append, List.map_cons, List.map_nil]
    rw [thL_succ he, hw, bl_app]
    unfold Lib.join at ih ⊢
    rcases Nat.eq_zero_or_pos k with rfl | h0
    · rw [if_neg (by omega), ih (by omega)]
      simp [List.intercalate, List.intersperse]
    · rw [if_pos h0, inter_snoc _ _ _ (by intro h9; have h8 := congrArg List.length h9; rw [List.length_map, List.length_map, List.length_take] at h8; simp only [List.length_nil] at h8; omega), bl_app, ih (by omega)]
/-- a history's text -/
def thtx (h : List TxnT) : ByteArray := if histv h then thL h h.length else ⟨#[]⟩
theorem thtx_join {h : List TxnT} (hv : histv h = true) : (⟨(Lib.join ((h.map txtx).map bl) [59, 32]).toArray⟩ : ByteArray) = thtx h := by
  have h1 := thL_join h h.length (Nat.le_refl _)
  rw [List.take_length] at h1
  apply bl_inj
  unfold thtx
  rw [if_pos hv, h1]

/-- strings that are a call's own -/
def flatS (xs : List ByteArray) : List Value := xs.map Value.string
section
variable {w w' : World} {base : Nat} {e : TypeId} {v : Value} {xs : List ByteArray}
def OwnS (w : World) (base : Nat) (e : TypeId) (v : Value) (xs : List ByteArray) : Prop := w.ownsRow base e 1 v xs.length (flatS xs)
theorem OwnS.ext (h : OwnS w base e v xs) (hb : Ext w w') : OwnS w' base e v xs :=
  World.ownsRow.kept (row := none) h ⟨hb.os, hb.tape, hb.output, hb.size, fun k hk _ => hb.block k hk⟩ (by cases v <;> simp [Value.ownBlock]; split <;> simp)
theorem OwnS.made (w : World) {g : Nat} (cur : Array Value) (cap : Nat) (hg : g = w.heap.size) (hb : base ≤ w.heap.size) (hm : cap ≤ 1048576) (hs : cur.size = cap) : OwnS (w.alloc (.cells cur e)) base e (.slice (some ⟨g, 0, none⟩) 0 cap) [] := by
  subst hg
  exact World.ownsRow_made _ _ _ hb (by unfold maxLen; omega) (by omega)
theorem OwnS.lit (w : World) (xs : List ByteArray) (hb : base ≤ w.heap.size) (hl : xs.length ≤ 1048576) : OwnS (w.alloc (.cells (flatS xs).toArray e)) base e (.slice (some ⟨w.heap.size, 0, none⟩) xs.length xs.length) xs := by
  unfold OwnS
  refine ⟨by simp [flatS], .inr ⟨w.heap.size, xs.length, (flatS xs).toArray, rfl, hb, heap_alloc_new w _, Nat.le_refl _, by unfold maxLen; omega, by simp [flatS], ?_⟩⟩
  rw [List.take_of_length_le (by simp [flatS])]
theorem OwnS.cells (h : OwnS w base e v xs) : v = .slice none 0 0 ∧ xs = [] ∨ ∃ g c, v = .slice (some ⟨g, 0, none⟩) xs.length c ∧ base ≤ g ∧ g < w.heap.size ∧ xs.length ≤ c ∧ ∀ (j : Nat) x, xs[j]? = some x → w.cell? ⟨g, j, none⟩ = some (.string x) := by
  rcases h.2 with ⟨rfl, hn⟩ | ⟨g, cap, cur, rfl, hb, hg, hle, hm, hs, ht⟩
  · exact .inl ⟨rfl, List.eq_nil_of_length_eq_zero hn⟩
  · refine .inr ⟨g, cap, rfl, hb, (Array.getElem?_eq_some_iff.1 hg).1, hle, fun j x hx => ?_⟩
    have hj : j < xs.length := (List.getElem?_eq_some_iff.1 hx).1
    have h1 : (flatS xs)[j]? = some (.string x) := by unfold flatS; rw [List.getElem?_map, hx]; rfl
    have h2 := cell_of_row w g j cur e (0, 0) hg
    rw [h2, ← h1, ← ht, List.getElem?_take, if_pos (by omega)]
    simp
end
theorem ownS_block {w : World} {base : Nat} {e : TypeId} {v : Value} {xs : List ByteArray} (h : OwnS w base e v xs) (g : Nat) (hg : v.ownBlock = some g) : base ≤ g := (World.ownsRow.lt h g hg).1
/-- append of one string -/
theorem wpList_appendS {P : Program} (w : World) {ops : Array Oper} {rest : List Oper} {o : Oper} {a : Act} {Q : Exit → Act → World → Prop} (hgd : o.guard = none) (s x : Operand) (t : TypeId)
    (ho : o.op = .call { callee := .builtin .append, args := #[s, x], argTypes := #[t, t] })
    (base : Nat) (e : TypeId) {z : Value} (ht : P.underlying t = some (.slice e)) (hinfo : (P.info? e).map (fun i => (i.zero, i.size, i.bytes)) = some (some z, 1, 16)) (hzs : z.cells.size = 1)
    (v : Value) (xs : List ByteArray) (hs : a.eval s = v) (hown : OwnS w base e v xs)
    (g : Nat) (x0 : ByteArray) (hx : a.eval x = .slice (some ⟨g, 0, none⟩) 1 1) (c0 : w.cell? ⟨g, 0, none⟩ = some (.string x0))
    (hn : xs.length ≤ 1048576) (hbase : base ≤ w.heap.size)
    (h : ∀ v' w', OwnS w' base e v' (xs ++ [x0]) → w.grownBy w' v.ownBlock → wpList P ops Q rest (a.put o.dst v') w') : wpList P ops Q (o :: rest) a w := by
  obtain ⟨i0, hi, hz0, hz1, hz2⟩ := info_parts hinfo
  refine wpList_append_own w hgd s x t ho base e i0 z 1 16 ht hi hz0 hz1 hz2 hzs (by decide) v xs.length (flatS xs) hs hown ⟨g, 0, none⟩ 1 1 [.string x0] hx rfl ?_ ?_ (by unfold maxLen; omega) (by omega) hbase ?_
  · intro j u hu
    match j, hu with
    | 0, hu => cases hu; exact c0
    | j + 1, hu => simp at hu
  · intro u hu
    simp at hu
    rcases hu with rfl
    rfl
  · intro v' w' h1 h2 _
    refine h v' w' ?_ h2
    unfold OwnS
    rw [show flatS (xs ++ [x0]) = flatS xs ++ [.string x0] by simp [flatS], List.length_append]
    exact h1
theorem infoS : (Tryd.prog.info? 9).map (fun i => (i.zero, i.size, i.bytes)) = some (some (.string ⟨#[]⟩), 1, 16) := by kernel_rfl
end Go.Proofs.YtciadlhencgjmaaDoor
