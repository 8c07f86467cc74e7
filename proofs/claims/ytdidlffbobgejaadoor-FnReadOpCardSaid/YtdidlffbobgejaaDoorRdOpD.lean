/-
  Texts that are operations: plain facts.
-/
import Derived.Test.YtdidlffbobgejaaDoorText
namespace Go.Proofs.YtdidlffbobgejaaDoor
set_option linter.unusedSimpArgs false
set_option linter.unusedVariables false
set_option maxRecDepth 100000
open Go.RowKit

theorem ba_eq {a : ByteArray} {l : List UInt8} (h : a.data.toList = l) : a = ⟨l.toArray⟩ := by
  obtain ⟨⟨a⟩⟩ := a
  simp only at h
  subst h
  rfl
/-- the number that one or two digits write, without a needless zero -/
def digs : List UInt8 → Option Nat
  | [a] => if 48 ≤ a.toNat ∧ a.toNat ≤ 57 then some (a.toNat - 48) else none
  | [a, b] => if 49 ≤ a.toNat ∧ a.toNat ≤ 57 ∧ 48 ≤ b.toNat ∧ b.toNat ≤ 57 then some ((a.toNat - 48) * 10 + (b.toNat - 48)) else none
  | _ => none
theorem u8_eq {a : UInt8} {n : Nat} (h : a.toNat = n) : a = UInt8.ofNat n := by
  apply UInt8.toNat_inj.1
  rw [h]
  have := a.toNat_lt
  simp
  omega
theorem u8_nat {n : Nat} (h : n < 256) : (UInt8.ofNat n).toNat = n := by
  simp
  omega
theorem digs_dec (n : Nat) (h : n < 100) : digs (Lib.decDigits n) = some n := by
  by_cases h1 : n < 10
  · rw [Lib.decDigits_one h1]
    have e := u8_nat (n := 48 + n) (by omega)
    show (if 48 ≤ (UInt8.ofNat (48 + n)).toNat ∧ (UInt8.ofNat (48 + n)).toNat ≤ 57 then some ((UInt8.ofNat (48 + n)).toNat - 48) else none) = some n
    rw [e, if_pos (by omega)]
    congr 1
    omega
  · rw [Lib.decDigits_two h1 h]
    have e := u8_nat (n := 48 + n / 10) (by omega)
    have e2 := u8_nat (n := 48 + n % 10) (by omega)
    show (if 49 ≤ (UInt8.ofNat (48 + n / 10)).toNat ∧ (UInt8.ofNat (48 + n / 10)).toNat ≤ 57 ∧ 48 ≤ (UInt8.ofNat (48 + n % 10)).toNat ∧ (UInt8.ofNat (48 + n % 10)).toNat ≤ 57 then some (((UInt8.ofNat (48 + n / 10)).toNat - 48) * 10 + ((UInt8.ofNat (48 + n % 10)).toNat - 48)) else none) = some n
    rw [e, e2, if_pos (by omega)]
    congr 1
    omega
theorem digs_lt {v : List UInt8} {n : Nat} (h : digs v = some n) : n < 100 := by
  unfold digs at h
  split at h
  · split at h
    · cases h; omega
    · cases h
  · split at h
    · cases h; omega
    · cases h
  · cases h
theorem digs_of {v : List UInt8} {n : Nat} (h : digs v = some n) : v = Lib.decDigits n := by
  unfold digs at h
  split at h
  · rename_i a
    split at h
    · cases h
      rw [Lib.decDigits_one (by omega)]
      rw [List.cons.injEq]
      exact ⟨u8_eq (by omega), rfl⟩
    · cases h
  · rename_i a b
    split at h
    · cases h
      rw [Lib.decDigits_two (by omega) (by omega)]
      rw [List.cons.injEq, List.cons.injEq]
      exact ⟨u8_eq (by omega), u8_eq (by omega), rfl⟩
    · cases h
  · cases h
def rd3 (a : Int) : Option Nat → Option Nat → Option T3
  | some b, some c => if opv ⟨a, b, c⟩ = true then some ⟨a, b, c⟩ else none
  | _, _ => none
theorem rd3_some {a : Int} {x y : Option Nat} {o : T3} (h : rd3 a x y = some o) : ∃ b c : Nat, x = some b ∧ y = some c ∧ o = ⟨a, b, c⟩ ∧ opv o = true := by
  unfold rd3 at h
  split at h
  · rename_i b c
    by_cases ho : opv ⟨a, b, c⟩ = true
    · rw [if_pos ho] at h
      cases h
      exact ⟨b, c, rfl, rfl, rfl, ho⟩
    · rw [if_neg ho] at h
      cases h
  · cases h
/-- the operation of a text -/
def rdo : List UInt8 → Option T3
  | k :: y :: e :: v => if (k = 114 ∨ k = 119) ∧ e = 61 then rd3 (if k = 119 then 2 else 1) (digs [y]) (digs v) else none
  | _ => none
theorem opv_facts3 {o : T3} (h : opv o = true) : (o.a = 1 ∨ o.a = 2) ∧ (0 ≤ o.b ∧ o.b ≤ 2) ∧ 0 ≤ o.c ∧ o.c ≤ 99 := by
  obtain ⟨a, b, c⟩ := o
  simp only [opv, inB, Bool.and_eq_true, Bool.or_eq_true, decide_eq_true_eq, Bool.not_eq_true', Bool.and_eq_false_iff, decide_eq_false_iff_not, beq_iff_eq, beq_eq_false_iff_ne] at h
  simp only
  omega
theorem optx_bytes {o : T3} (h : opv o = true) : (optx o).data.toList = (if o.a = 2 then 119 else 114) :: (UInt8.ofNat (48 + o.b.toNat)) :: 61 :: Lib.decDigits o.c.toNat := by
  obtain ⟨h1, h2, h3⟩ := opv_facts3 h
  unfold optx
  rw [if_pos h, Lib.decDigits_one (by omega)]
  unfold letr
  by_cases h4 : o.a = 2
  · rw [if_pos (by simp [h4]), if_pos h4]
    simp
  · rw [if_neg (by simp [h4]), if_neg h4]
    simp
theorem rdo_optx {o : T3} (h : opv o = true) : rdo (optx o).data.toList = some o := by
  obtain ⟨h1, h2, h3⟩ := opv_facts3 h
  have e1 : digs [UInt8.ofNat (48 + o.b.toNat)] = some o.b.toNat := by
    have := digs_dec o.b.toNat (by omega)
    rwa [Lib.decDigits_one (by omega)] at this
  have e2 := digs_dec o.c.toNat (by omega)
  have hb := optx_bytes h
  rw [hb]
  have hr : ∀ k : UInt8, (k = 114 ∨ k = 119) → rdo (k :: UInt8.ofNat (48 + o.b.toNat) :: 61 :: Lib.decDigits o.c.toNat) = rd3 (if k = 119 then 2 else 1) (some o.b.toNat) (some o.c.toNat) := fun k hk => by
    show (if (k = 114 ∨ k = 119) ∧ (61 : UInt8) = 61 then rd3 (if k = 119 then 2 else 1) (digs [UInt8.ofNat (48 + o.b.toNat)]) (digs (Lib.decDigits o.c.toNat)) else none) = _
    rw [if_pos ⟨hk, rfl⟩, e1, e2]
  obtain ⟨a, b, c⟩ := o
  simp only at h1 h2 h3 hr ⊢
  obtain ⟨b, rfl⟩ := Int.eq_ofNat_of_zero_le h2.1
  obtain ⟨c, rfl⟩ := Int.eq_ofNat_of_zero_le h3.1
  rcases h1 with rfl | rfl
  · rw [if_neg (by omega), hr 114 (.inl rfl), if_neg (show ¬ (114 : UInt8) = 119 by decide)]
    unfold rd3
    simp only [Int.toNat_natCast]
    rw [if_pos h]
  · rw [if_pos rfl, hr 119 (.inr rfl), if_pos rfl]
    unfold rd3
    simp only [Int.toNat_natCast]
    rw [if_pos h]
theorem rdo_some {l : List UInt8} {o : T3} (h : rdo l = some o) : opv o = true ∧ (optx o).data.toList = l := by
  unfold rdo at h
  split at h
  · rename_i k y e v
    by_cases hk : (k = 114 ∨ k = 119) ∧ e = 61
    · rw [if_pos hk] at h
      obtain ⟨b, c, hb, hc, rfl, ho⟩ := rd3_some h
      refine ⟨ho, ?_⟩
      rw [optx_bytes ho]
      have h1 := digs_of hc
      have h2 := digs_of hb
      have h3 := (opv_facts3 ho).2.1
      simp only at h3
      rw [Lib.decDigits_one (by omega)] at h2
      simp only [List.cons.injEq, and_true] at h2
      simp only [Int.toNat_natCast]
      rw [← h1, ← h2, hk.2]
      rcases hk.1 with rfl | rfl
      · rw [if_neg (by decide)]
      · rw [if_pos rfl, if_pos rfl]
    · rw [if_neg hk] at h
      cases h
  · cases h
theorem rdo_iff (s : ByteArray) (o : T3) (h4 : 4 ≤ s.size) : optx o = s ↔ rdo s.data.toList = some o := by
  constructor
  · intro h
    cases ho : opv o with
    | true => rw [← h]; exact rdo_optx ho
    | false =>
      exfalso
      have : optx o = ⟨#[]⟩ := by unfold optx; rw [ho]; rfl
      rw [← h, this] at h4
      exact absurd h4 (by decide)
  · intro h
    have := (rdo_some h).2
    obtain ⟨⟨a⟩⟩ := s
    simp only at this
    generalize hq : optx o = q at this
    obtain ⟨⟨q⟩⟩ := q
    simp only at this
    subst this
    rfl
end Go.Proofs.YtdidlffbobgejaaDoor
