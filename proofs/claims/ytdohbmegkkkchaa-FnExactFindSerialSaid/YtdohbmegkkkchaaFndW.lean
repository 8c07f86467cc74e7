/-
  The program's search for a serial order: the recursive closure.
-/
import Derived.Test.YtdohbmegkkkchaaFndI
import Derived.Test.YtdohbmegkkkchaaRes
namespace Go.Proofs.Ytdohbmegkkkchaa
set_option linter.unusedSimpArgs false
set_option linter.unusedVariables false
set_option maxRecDepth 100000
open Go.RowKit

theorem runH_snoc (h : List TxnT) (pre : List Int) (x : Int) : runH h (pre ++ [x]) = (runH h pre).bind fun f => runT h f x := by
  unfold runH
  rw [List.foldl_append]
  rfl
theorem bit_push {g m : Nat} (hg : g < 64) (hm : m < 6) {pre : List Int} (hb : ∀ j : Nat, j < 6 → g.testBit j = decide ((j : Int) ∈ pre)) : g ||| 2 ^ m < 64 ∧ ∀ j : Nat, j < 6 → (g ||| 2 ^ m).testBit j = decide ((j : Int) ∈ pre ++ [(m : Int)]) := by
  refine ⟨Nat.or_lt_two_pow (n := 6) hg (Nat.pow_lt_pow_right (by omega) hm), fun j hj => ?_⟩
  rw [Nat.testBit_or, hb j hj, Nat.testBit_two_pow]
  by_cases h1 : (j : Int) ∈ pre
  · simp [h1]
  · by_cases h2 : m = j
    · subst h2; simp
    · have h3 : ¬ ((j : Int) = (m : Int)) := by omega
      simp [h1, h2, h3]
theorem bit_val {g m : Nat} {b : Bool} (h : g.testBit m = b) : (g >>> m) &&& 1 = if b = true then 1 else 0 := by
  rw [Nat.testBit, Nat.and_comm] at h
  have h1 : (g >>> m) &&& 1 ≤ 1 := Nat.and_le_right
  cases b with
  | true =>
    rw [if_pos rfl]
    have : (g >>> m) &&& 1 ≠ 0 := by simpa using h
    omega
  | false =>
    rw [if_neg (by simp)]
    simpa using h
theorem shr_run (g m : Nat) (hm : m < 6) (W : World) : (binOp .shr 76 (.int .u64 (g : Int)) (.int .i64 (m : Int))).run Try.prog W = .ok (.int .u64 ((g >>> m : Nat) : Int)) W := by
  have e : (g : Int).fdiv (2 ^ m) = ((g >>> m : Nat) : Int) := by
    rw [Nat.shiftRight_eq_div_pow]
    obtain rfl | rfl | rfl | rfl | rfl | rfl : m = 0 ∨ m = 1 ∨ m = 2 ∨ m = 3 ∨ m = 4 ∨ m = 5 := by omega
    all_goals
      rw [Int.fdiv_eq_ediv_of_nonneg _ (by decide)]
      omega
  show (Op.shift .shr .u64 (g : Int) .i64 (m : Int)).run Try.prog W = _
  unfold Op.shift
  rw [if_neg (by omega)]
  have h2 : min (m : Int).toNat IntKind.u64.bits = m := by
    rw [Int.toNat_natCast]
    exact Nat.min_eq_left (by show m ≤ 64; omega)
  simp only [h2, e]
  rfl
theorem shl_run (m : Nat) (hm : m < 6) (W : World) : (binOp .shl 76 (.int .u64 1) (.int .i64 (m : Int))).run Try.prog W = .ok (.int .u64 ((2 ^ m : Nat) : Int)) W := by
  obtain rfl | rfl | rfl | rfl | rfl | rfl : m = 0 ∨ m = 1 ∨ m = 2 ∨ m = 3 ∨ m = 4 ∨ m = 5 := by omega
  all_goals rfl
theorem and_run (a : Nat) (ha : a < 64) (W : World) : (binOp .and 76 (.int .u64 (a : Int)) (.int .u64 1)).run Try.prog W = .ok (.int .u64 ((a &&& 1 : Nat) : Int)) W := by
  have h := bits_and_u64 a 1 (by omega) (by omega)
  show (Op.intBits .and .u64 (a : Int) 1).run Try.prog W = _
  unfold Op.intBits
  rw [← h]
  rfl
theorem or_run (a b : Nat) (ha : a < 64) (hb : b < 64) (W : World) : (binOp .or 76 (.int .u64 (a : Int)) (.int .u64 (b : Int))).run Try.prog W = .ok (.int .u64 ((a ||| b : Nat) : Int)) W := by
  have h := bits_or_u64 a b (by omega) (by omega)
  show (Op.intBits .or .u64 (a : Int) (b : Int)).run Try.prog W = _
  unfold Op.intBits
  rw [← h]
  rfl
/-- what the search leaves as it was -/
structure Kp (B : FB) (v v' : Value) (w w' : World) : Prop where
  size : w.heap.size ≤ w'.heap.size
  keep : ∀ b, b < w.heap.size → b ≠ B.bo → some b ≠ v.ownBlock → w'.heap[b]? = w.heap[b]?
  own : v'.ownBlock = v.ownBlock ∨ ∃ q, v'.ownBlock = some q ∧ w.heap.size ≤ q
theorem Kp.refl (B : FB) (v : Value) (w : World) : Kp B v v w w := ⟨Nat.le_refl _, fun _ _ _ _ => rfl, .inl rfl⟩
theorem Kp.ext {B : FB} {v v' : Value} {w w1 w2 : World} (h : Kp B v v' w w1) (hE : Ext w1 w2) : Kp B v v' w w2 :=
  ⟨Nat.le_trans h.size hE.size, fun b h1 h2 h3 => (hE.block b (Nat.lt_of_lt_of_le h1 h.size)).trans (h.keep b h1 h2 h3), h.own⟩
theorem Kp.old {B : FB} {v v' : Value} {w w1 w2 : World} (hE : Ext w w1) (h : Kp B v v' w1 w2) : Kp B v v' w w2 :=
  ⟨Nat.le_trans hE.size h.size, fun b h1 h2 h3 => (h.keep b (Nat.lt_of_lt_of_le h1 hE.size) h2 h3).trans (hE.block b h1), by
    rcases h.own with e | ⟨q, e, hq⟩
    · exact .inl e
    · exact .inr ⟨q, e, Nat.le_trans hE.size hq⟩⟩
theorem Kp.tr {B : FB} {v v1 v2 : Value} {w w1 w2 : World} (h : Kp B v v1 w w1) (k : Kp B v1 v2 w1 w2) : Kp B v v2 w w2 :=
  ⟨Nat.le_trans h.size k.size, fun b h1 h2 h3 => (k.keep b (Nat.lt_of_lt_of_le h1 h.size) h2 (fun e => by
    rcases h.own with e1 | ⟨q, e1, hq⟩
    · rw [e1] at e; exact h3 e
    · rw [e1] at e; injection e with e; omega)).trans (h.keep b h1 h2 h3), by
    rcases k.own with e | ⟨q, e, hq⟩
    · rcases h.own with e1 | ⟨q, e1, hq⟩
      · exact .inl (e.trans e1)
      · exact .inr ⟨q, e.trans e1, hq⟩
    · exact .inr ⟨q, e, Nat.le_trans h.size hq⟩⟩
theorem Kp.push {B : FB} {v v' : Value} {w w' : World} (hg : w.grownBy w' v.ownBlock) (hat : v'.ownBlock = v.ownBlock ∨ v'.ownBlock = some w.heap.size) : Kp B v v' w (w'.setCell ⟨B.bo, 0, none⟩ v') :=
  ⟨by rw [World.size_setCell]; exact hg.size, fun b h1 h2 h3 => by
    rw [Below.heap_setCell _ ⟨B.bo, 0, none⟩ _ b (by simpa using h2)]
    exact hg.block b h1 h3, by
    rcases hat with e | e
    · exact .inl e
    · exact .inr ⟨_, e, Nat.le_refl _⟩⟩
theorem Kp.pop {B : FB} {Av : Option Addr} {n m cp : Nat} {w : World} : Kp B (.slice Av n cp) (.slice Av m cp) w (w.setCell ⟨B.bo, 0, none⟩ (.slice Av m cp)) :=
  ⟨by rw [World.size_setCell]; exact Nat.le_refl _, fun b _ h2 _ => Below.heap_setCell _ ⟨B.bo, 0, none⟩ _ b (by simpa using h2), .inl (by cases Av <;> rfl)⟩
end Go.Proofs.Ytdohbmegkkkchaa
