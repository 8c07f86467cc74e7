/-
  Plain facts: all orders of a list, those first that begin with earlier numbers; all valid orders of a history.
-/
import Derived.Test.YtdgfipoibnjhaaaFirst
import Derived.Test.YtdgfipoibnjhaaaOrdV
namespace Go.Proofs.Ytdgfipoibnjhaaa
set_option linter.unusedSimpArgs false
set_option linter.unusedVariables false
set_option maxRecDepth 100000

/-- all orders of a list of n numbers -/
def prmN : Nat → List Int → List (List Int)
  | 0, _ => [[]]
  | n + 1, l => (List.range l.length).flatMap fun k => (prmN n (l.eraseIdx k)).map fun o => l.getD k 0 :: o
def prm (l : List Int) : List (List Int) := prmN l.length l
/-- the orders that begin with one of the first k numbers -/
def prmTo (l : List Int) (k : Nat) : List (List Int) := (List.range k).flatMap fun k => (prm (l.eraseIdx k)).map fun o => l.getD k 0 :: o
theorem erase_len {l : List Int} {k : Nat} (hk : k < l.length) : (l.eraseIdx k).length = l.length - 1 := by
  rw [List.length_eraseIdx, if_pos hk]
theorem prm_to {l : List Int} (hl : l ≠ []) : prm l = prmTo l l.length := by
  unfold prm prmTo
  obtain ⟨n, hn⟩ : ∃ n, l.length = n + 1 := ⟨l.length - 1, by have := List.length_pos_iff.2 hl; omega⟩
  rw [hn]
  show (List.range l.length).flatMap _ = _
  rw [hn]
  rw [List.flatMap_def, List.flatMap_def]
  congr 1
  apply List.map_congr_left
  intro k hk
  have hk := List.mem_range.1 hk
  show _ = List.map _ (prmN (l.eraseIdx k).length (l.eraseIdx k))
  rw [erase_len (by omega), hn]
  rfl
theorem prmTo_succ {l : List Int} {k : Nat} {x : Int} (hx : l[k]? = some x) : prmTo l (k + 1) = prmTo l k ++ (prm (l.eraseIdx k)).map fun o => x :: o := by
  unfold prmTo
  rw [List.range_succ, List.flatMap_append]
  simp only [List.flatMap_cons, List.flatMap_nil, List.append_nil, List.getD_eq_getElem?_getD, hx, Option.getD_some]
theorem cons_erase_perm : ∀ {l : List Int} {k : Nat} {x : Int}, l[k]? = some x → (x :: l.eraseIdx k).Perm l
  | [], _, _, h => by simp at h
  | z :: zs, 0, x, h => by
    simp only [List.getElem?_cons_zero, Option.some.injEq] at h
    subst h
    exact List.Perm.refl _
  | z :: zs, k + 1, x, h => by
    simp only [List.getElem?_cons_succ] at h
    rw [List.eraseIdx_cons_succ]
    exact (List.Perm.swap z x _).trans ((cons_erase_perm h).cons z)
theorem prmN_perm : ∀ (n : Nat) (l : List Int), l.length = n → ∀ o ∈ prmN n l, o.Perm l
  | 0, l, hl, o, ho => by
    obtain rfl := List.eq_nil_of_length_eq_zero hl
    simp only [prmN, List.mem_singleton] at ho
    subst ho
    exact List.Perm.refl _
  | n + 1, l, hl, o, ho => by
    simp only [prmN, List.mem_flatMap, List.mem_range, List.mem_map] at ho
    obtain ⟨k, hk, o', ho', rfl⟩ := ho
    have h1 := prmN_perm n (l.eraseIdx k) (by rw [erase_len hk]; omega) o' ho'
    have hx : l[k]? = some (l.getD k 0) := by rw [List.getD_eq_getElem?_getD, List.getElem?_eq_getElem hk, Option.getD_some]
    exact (h1.cons _).trans (cons_erase_perm hx)
theorem prm_perm {l o : List Int} (ho : o ∈ prm l) : o.Perm l := prmN_perm _ l rfl o ho
def fac : Nat → Nat
  | 0 => 1
  | n + 1 => fac n * (n + 1)
theorem prmN_len : ∀ (n : Nat) (l : List Int), l.length = n → (prmN n l).length = fac n
  | 0, _, _ => rfl
  | n + 1, l, hl => by
    unfold prmN fac
    rw [List.length_flatMap]
    have : ∀ k ∈ List.range l.length, ((prmN n (l.eraseIdx k)).map fun o => l.getD k 0 :: o).length = fac n := fun k hk => by
      rw [List.length_map]
      exact prmN_len n _ (by rw [erase_len (List.mem_range.1 hk)]; omega)
    rw [List.map_congr_left this, List.map_const', List.sum_replicate_nat, List.length_range, hl, Nat.mul_comm]
theorem prm_len (l : List Int) : (prm l).length = fac l.length := prmN_len _ l rfl
theorem fac_pos (n : Nat) : 1 ≤ fac n := by
  induction n with
  | zero => exact Nat.le_refl _
  | succ n ih =>
    unfold fac
    exact Nat.le_trans ih (Nat.le_mul_of_pos_right _ (by omega))
theorem fac_mono {a b : Nat} (h : a ≤ b) : fac a ≤ fac b := by
  induction h with
  | refl => exact Nat.le_refl _
  | step _ ih =>
    refine Nat.le_trans ih ?_
    show _ ≤ fac _ * _
    exact Nat.le_mul_of_pos_right _ (by omega)
theorem fac_le {n : Nat} (h : n ≤ 6) : fac n ≤ 720 := fac_mono h
theorem prmTo_len6 {l : List Int} (hl : l.length ≤ 6) (k : Nat) (hk : k ≤ l.length) : (prmTo l k).length ≤ 720 * k := by
  induction k with
  | zero => simp [prmTo]
  | succ k ih =>
    have hx : l[k]? = some (l[k]'(by omega)) := List.getElem?_eq_getElem _
    rw [prmTo_succ hx, List.length_append, List.length_map, prm_len]
    have h1 := ih (by omega)
    have h2 : (l.eraseIdx k).length = l.length - 1 := erase_len (by omega)
    have h3 := fac_le (n := (l.eraseIdx k).length) (by omega)
    omega
/-- orders that go on from those begun -/
def extO (o : List (List Int)) (l : List Int) : List (List (List Int)) := (prm l).map fun x => o ++ [x]
def extV (out : List (List (List Int))) (l : List Int) : List (List (List Int)) := out.flatMap fun o => extO o l
theorem extV_take {out : List (List (List Int))} {l : List Int} {k : Nat} {o : List (List Int)} (ho : out[k]? = some o) : extV (out.take (k + 1)) l = extV (out.take k) l ++ extO o l := by
  unfold extV
  rw [List.take_add_one, ho, List.flatMap_append]
  simp
theorem extV_len (out : List (List (List Int))) (l : List Int) : (extV out l).length = out.length * fac l.length := by
  unfold extV
  rw [List.length_flatMap]
  have : ∀ o ∈ out, (extO o l).length = fac l.length := fun o _ => by unfold extO; rw [List.length_map, prm_len]
  rw [List.map_congr_left this, List.map_const', List.sum_replicate_nat]
theorem extV_mem {out : List (List (List Int))} {l : List Int} {o : List (List Int)} : o ∈ extV out l ↔ ∃ p ∈ out, ∃ x ∈ prm l, o = p ++ [x] := by
  simp only [extV, extO, List.mem_flatMap, List.mem_map]
  constructor
  · rintro ⟨p, hp, x, hx, rfl⟩; exact ⟨p, hp, x, hx, rfl⟩
  · rintro ⟨p, hp, x, hx, rfl⟩; exact ⟨p, hp, x, hx, rfl⟩
/-- how many orders -/
def manyV (ls : List (List Int)) : Nat := ls.foldl (fun m l => m * fac l.length) 1
def allL (ls : List (List Int)) : List (List (List Int)) := ls.foldl extV [[]]
theorem fold_many : ∀ (ls : List (List Int)) (out : List (List (List Int))), (ls.foldl extV out).length = ls.foldl (fun m l => m * fac l.length) out.length
  | [], _ => rfl
  | l :: ls, out => by
    simp only [List.foldl_cons]
    rw [fold_many ls, extV_len]
theorem allL_len (ls : List (List Int)) : (allL ls).length = manyV ls := fold_many ls [[]]
theorem allL_take {ls : List (List Int)} {k : Nat} {l : List Int} (hk : ls[k]? = some l) : allL (ls.take (k + 1)) = extV (allL (ls.take k)) l := by
  unfold allL
  rw [List.take_add_one, hk, List.foldl_append]
  rfl
theorem manyV_take {ls : List (List Int)} {k : Nat} {l : List Int} (hk : ls[k]? = some l) : manyV (ls.take (k + 1)) = manyV (ls.take k) * fac l.length := by
  unfold manyV
  rw [List.take_add_one, hk, List.foldl_append]
  rfl
theorem all_rowsLen {ls : List (List Int)} {j n : Nat} {o : List (List Int)} (h : (allL (ls.take j))[n]? = some o) : o.length = (ls.take j).length := by
  have step : ∀ (xs : List (List Int)) (out : List (List (List Int))) (m : Nat), (∀ o ∈ out, o.length = m) → ∀ o ∈ xs.foldl extV out, o.length = m + xs.length := by
    intro xs
    induction xs with
    | nil => intro out m h o ho; simpa using h o ho
    | cons x xs ih =>
      intro out m h o ho
      rw [List.foldl_cons] at ho
      have := ih (extV out x) (m + 1) (fun o ho => by
        obtain ⟨p, hp, y, _, rfl⟩ := extV_mem.1 ho
        rw [List.length_append, h p hp]; rfl) o ho
      rw [this, List.length_cons]
      omega
  have := step (ls.take j) [[]] 0 (fun o ho => by rw [List.mem_singleton] at ho; subst ho; rfl) o (List.mem_of_getElem? h)
  omega
theorem all_rows6 {ls : List (List Int)} (hl : ∀ l ∈ ls, l.length ≤ 6) {j n : Nat} {o : List (List Int)} (h : (allL (ls.take j))[n]? = some o) : ∀ l ∈ o, l.length ≤ 6 := by
  have step : ∀ (xs : List (List Int)) (out : List (List (List Int))), (∀ l ∈ xs, l.length ≤ 6) → (∀ o ∈ out, ∀ l ∈ o, l.length ≤ 6) → ∀ o ∈ xs.foldl extV out, ∀ l ∈ o, l.length ≤ 6 := by
    intro xs
    induction xs with
    | nil => intro out _ h o ho; exact h o ho
    | cons x xs ih =>
      intro out hx h o ho
      rw [List.foldl_cons] at ho
      refine ih (extV out x) (fun l hl => hx l (by simp [hl])) (fun o ho => ?_) o ho
      obtain ⟨p, hp, y, hy, rfl⟩ := extV_mem.1 ho
      intro l hl
      rcases List.mem_append.1 hl with hl | hl
      · exact h p hp l hl
      · rw [List.mem_singleton] at hl
        subst hl
        rw [(prm_perm hy).length_eq]
        exact hx x (by simp)
  exact step (ls.take j) [[]] (fun l h => hl l (List.mem_of_mem_take h)) (fun o ho => by rw [List.mem_singleton] at ho; subst ho; intro l hl; cases hl) o (List.mem_of_getElem? h)
/-- all valid orders of a history -/
def allV (h : List TxnT) : List (List (List Int)) := if histv h = true ∧ manyV (firstV h) ≤ 200 then allL (firstV h) else []
theorem allV_len (h : List TxnT) : (allV h).length ≤ 200 := by
  unfold allV
  split
  · rename_i hc
    rw [allL_len]
    exact hc.2
  · simp
theorem first_three {h : List TxnT} (hv : histv h = true) : firstV h = [instd h 0, instd h 1, instd h 2] := by
  unfold firstV
  rw [if_pos hv]
theorem allL_three (a b c : List Int) : allL [a, b, c] = extV (extV (extV [[]] a) b) c := rfl
theorem allL_mem {a b c : List Int} {R : List (List Int)} : R ∈ allL [a, b, c] ↔ ∃ x ∈ prm a, ∃ y ∈ prm b, ∃ z ∈ prm c, R = [x, y, z] := by
  rw [allL_three]
  simp only [extV_mem, List.mem_singleton]
  constructor
  · rintro ⟨p, ⟨q, ⟨r, rfl, x, hx, rfl⟩, y, hy, rfl⟩, z, hz, rfl⟩
    exact ⟨x, hx, y, hy, z, hz, rfl⟩
  · rintro ⟨x, hx, y, hy, z, hz, rfl⟩
    exact ⟨[x, y], ⟨[x], ⟨[], rfl, x, hx, rfl⟩, y, hy, rfl⟩, z, hz, rfl⟩
theorem all_ord {h : List TxnT} {R : List (List Int)} (hR : R ∈ allV h) : ordV h R = true := by
  unfold allV at hR
  split at hR
  · rename_i hc
    rw [first_three hc.1, allL_mem] at hR
    obtain ⟨x, hx, y, hy, z, hz, rfl⟩ := hR
    refine ordV_true hc.1 rfl (fun k l hk hl => ?_)
    obtain rfl | rfl | rfl : k = 0 ∨ k = 1 ∨ k = 2 := by omega
    all_goals
      simp at hl
      subst hl
      refine (l7v_perm (instd_nodup h _)).2 (prm_perm ?_)
      assumption
  · cases hR
theorem all_len3 {h : List TxnT} {R : List (List Int)} (hR : R ∈ allV h) : R.length = 3 := by
  have := all_ord hR
  simp only [ordV, Bool.and_eq_true, decide_eq_true_eq] at this
  exact this.1.2
theorem inT_len1 (h : List TxnT) (key : Int) (k : Nat) : (inT h key k).length ≤ k := by
  induction k with
  | zero => exact Nat.le_refl _
  | succ k ih =>
    unfold inT
    split
    · rename_i t _
      split
      · rw [List.length_append]
        rcases kvs_lws t.ops key 3 with e | ⟨v, e, _⟩
        · rw [e]; simp only [List.length_nil]; omega
        · rw [e]; simp only [List.length_singleton]; omega
      · omega
    · omega
theorem instd_len6 {h : List TxnT} (hv : histv h = true) (key : Int) : (instd h key).length ≤ 6 := by
  unfold instd
  have := inT_len1 h key h.length
  have := histv_len hv
  split
  · omega
  · simp
theorem first_len6 {h : List TxnT} (hv : histv h = true) : ∀ l ∈ firstV h, l.length ≤ 6 := by
  rw [first_three hv]
  intro l hl
  simp only [List.mem_cons, List.not_mem_nil, or_false] at hl
  rcases hl with rfl | rfl | rfl <;> exact instd_len6 hv _
/-- the numbers of orders stay small -/
theorem many_le {ls : List (List Int)} (hl : ∀ l ∈ ls, l.length ≤ 6) (h3 : ls.length ≤ 3) (k : Nat) : 1 ≤ manyV (ls.take k) ∧ manyV (ls.take k) ≤ 373248000 := by
  have step : ∀ (xs : List (List Int)) (m : Nat), (∀ l ∈ xs, l.length ≤ 6) → 1 ≤ m → 1 ≤ xs.foldl (fun m l => m * fac l.length) m ∧ xs.foldl (fun m l => m * fac l.length) m ≤ m * 720 ^ xs.length := by
    intro xs
    induction xs with
    | nil => intro m _ hm; simp; exact hm
    | cons x xs ih =>
      intro m hx hm
      have h1 := fac_le (hx x (by simp))
      have h2 := fac_pos x.length
      obtain ⟨a, b⟩ := ih (m * fac x.length) (fun l hl => hx l (by simp [hl])) (Nat.le_trans hm (Nat.le_mul_of_pos_right _ h2))
      refine ⟨a, Nat.le_trans b ?_⟩
      rw [List.length_cons, Nat.pow_succ, Nat.mul_comm (720 ^ xs.length) 720, ← Nat.mul_assoc]
      exact Nat.mul_le_mul_right _ (Nat.mul_le_mul_left _ h1)
  obtain ⟨a, b⟩ := step (ls.take k) 1 (fun l h => hl l (List.mem_of_mem_take h)) (Nat.le_refl _)
  refine ⟨a, Nat.le_trans b ?_⟩
  rw [Nat.one_mul]
  refine Nat.le_trans (Nat.pow_le_pow_right (by omega) (show (ls.take k).length ≤ 3 by rw [List.length_take]; omega)) (by decide)
theorem many_mono (ls : List (List Int)) (k : Nat) : manyV (ls.take k) ≤ manyV ls := by
  have step : ∀ (xs : List (List Int)) (m : Nat), m ≤ xs.foldl (fun m l => m * fac l.length) m := by
    intro xs
    induction xs with
    | nil => intro m; exact Nat.le_refl _
    | cons x xs ih =>
      intro m
      exact Nat.le_trans (Nat.le_mul_of_pos_right _ (fac_pos x.length)) (ih _)
  have e : manyV ls = (ls.drop k).foldl (fun m l => m * fac l.length) (manyV (ls.take k)) := by
    unfold manyV
    rw [← List.foldl_append, List.take_append_drop]
  rw [e]
  exact step _ _
theorem ext_part {out : List (List (List Int))} {l : List Int} (k : Nat) : (extV (out.take k) l).length ≤ (extV out l).length := by
  rw [extV_len, extV_len, List.length_take]
  exact Nat.mul_le_mul_right _ (Nat.min_le_right _ _)
theorem all_take_len {ls : List (List Int)} (k : Nat) : (allL (ls.take k)).length = manyV (ls.take k) := allL_len _
theorem all_row {h : List TxnT} {R : List (List Int)} (hR : R ∈ allV h) : ∀ l ∈ R, l.length ≤ 18 := by
  unfold allV at hR
  split at hR
  · rename_i hc
    rw [first_three hc.1, allL_mem] at hR
    obtain ⟨x, hx, y, hy, z, hz, rfl⟩ := hR
    intro l hl
    simp only [List.mem_cons, List.not_mem_nil, or_false] at hl
    rcases hl with rfl | rfl | rfl
    · rw [(prm_perm hx).length_eq]; exact instd_len h _
    · rw [(prm_perm hy).length_eq]; exact instd_len h _
    · rw [(prm_perm hz).length_eq]; exact instd_len h _
  · cases hR
theorem all_small {h : List TxnT} {R : List (List Int)} (hR : R ∈ allV h) : SmallR R := by
  have h3 := all_len3 hR
  have hb := all_row hR
  have : tot R ≤ 18 * R.length := by
    clear h3 hR
    induction R with
    | nil => simp [tot]
    | cons x xs ih =>
      have := hb x (by simp)
      have := ih (fun l hl => hb l (by simp [hl]))
      simp only [tot, List.map_cons, List.sum_cons, List.length_cons] at this ⊢
      omega
  unfold SmallR
  omega
end Go.Proofs.Ytdgfipoibnjhaaa
