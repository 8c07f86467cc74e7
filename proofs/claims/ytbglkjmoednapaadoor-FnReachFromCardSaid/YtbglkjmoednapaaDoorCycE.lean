/-
  Plain facts: the program's way back is the reference's cycle.
-/
import Derived.Test.YtbglkjmoednapaaDoorAnom
import Derived.Test.YtbglkjmoednapaaDoorBack
namespace Go.Proofs.YtbglkjmoednapaaDoor
set_option linter.unusedSimpArgs false
set_option linter.unusedVariables false
set_option maxRecDepth 100000

theorem rd_wlk {f : Nat → Nat} {L : List T3} {t : Nat} (hE : Bit f = Ed L) : ∀ d v, Rd L t d v ↔ ∃ n, n ≤ d ∧ Wlk f t n v := by
  intro d
  induction d with
  | zero =>
    intro v
    constructor
    · intro h; exact ⟨0, Nat.le_refl _, h⟩
    · rintro ⟨n, hn, h⟩
      obtain rfl : n = 0 := by omega
      exact h
  | succ d ih =>
    intro v
    constructor
    · rintro (h | ⟨u, h1, h2⟩)
      · obtain ⟨n, hn, h⟩ := (ih v).1 h
        exact ⟨n, by omega, h⟩
      · obtain ⟨n, hn, h⟩ := (ih u).1 h2
        exact ⟨n + 1, by omega, u, by rw [hE]; exact h1, h⟩
    · rintro ⟨n, hn, h⟩
      cases n with
      | zero => exact Rd.more (Nat.zero_le _) h
      | succ n =>
        obtain ⟨u, h1, h2⟩ := h
        rw [hE] at h1
        exact .inr ⟨u, h1, (ih u).2 ⟨n, by omega, h2⟩⟩
/-- the reference's distance is the least number of edges, or -1 -/
theorem far_w {f : Nat → Nat} {L : List T3} {m t : Nat} (hE : Bit f = Ed L) (ht : t < m) (hL : EdM m L) (v : Nat) :
    (farT L t m v = -1 ∧ ∀ n, ¬ Wlk f t n v) ∨ ∃ d : Nat, farT L t m v = d ∧ Wlk f t d v ∧ ∀ n, n < d → ¬ Wlk f t n v := by
  have hlt : ∀ i j, Ed L i j → i < m := fun i j ⟨e, he, h1, _⟩ => by have := hL e he; omega
  rcases far_spec (fun e he => by have := hL e he; omega) t m v with ⟨e, hn⟩ | ⟨d, e, _, hr, hm⟩
  · left
    refine ⟨e, fun n hw => hn ?_⟩
    exact Rd.more (by omega) (Rd.enough ht hlt ((rd_wlk hE n v).2 ⟨n, Nat.le_refl _, hw⟩))
  · right
    obtain ⟨n, hnd, hw⟩ := (rd_wlk hE d v).1 hr
    have hnm : ∀ n, n < d → ¬ Wlk f t n v := fun n hn hw => hm n hn ((rd_wlk hE n v).2 ⟨n, Nat.le_refl _, hw⟩)
    have : n = d := by
      rcases Nat.lt_or_ge n d with h | h
      · exact absurd hw (hnm n h)
      · omega
    subst this
    exact ⟨n, e, hw, hnm⟩
theorem best_min {f : Nat → Int} (L : List T3) (s : Nat) : (best L f s < 0 ∨ ∃ e ∈ L, e.a = s ∧ f e.b.toNat = best L f s) ∧ ∀ e ∈ L, e.a = s → 0 ≤ f e.b.toNat → best L f s ≤ f e.b.toNat := by
  have key : ∀ (M : List T3) (b : Int), (M.foldl (bstep s f) b = b ∨ ∃ e ∈ M, e.a = s ∧ f e.b.toNat = M.foldl (bstep s f) b) ∧ (0 ≤ b → M.foldl (bstep s f) b ≤ b) ∧ ∀ e ∈ M, e.a = s → 0 ≤ f e.b.toNat → M.foldl (bstep s f) b ≤ f e.b.toNat := by
    intro M
    induction M with
    | nil => intro b; exact ⟨.inl rfl, fun _ => Int.le_refl _, fun e he => by cases he⟩
    | cons e M ih =>
      intro b
      rw [List.foldl_cons]
      obtain ⟨h1, h2, h3⟩ := ih (bstep s f b e)
      have hb : (bstep s f b e = b ∧ ¬ (e.a = s ∧ 0 ≤ f e.b.toNat ∧ (b < 0 ∨ f e.b.toNat < b))) ∨ (bstep s f b e = f e.b.toNat ∧ e.a = s ∧ 0 ≤ f e.b.toNat ∧ (b < 0 ∨ f e.b.toNat < b)) := by
        unfold bstep
        split
        · rename_i h; exact .inr ⟨rfl, h⟩
        · rename_i h; exact .inl ⟨rfl, h⟩
      refine ⟨?_, fun h0 => ?_, fun e' he' ha h0 => ?_⟩
      · rcases h1 with h1 | ⟨e', he', h4, h5⟩
        · rcases hb with ⟨hb, _⟩ | ⟨hb, h4, _⟩
          · left; rw [h1, hb]
          · right; exact ⟨e, by simp, h4, by rw [h1, hb]⟩
        · right; exact ⟨e', by simp [he'], h4, h5⟩
      · rcases hb with ⟨hb, _⟩ | ⟨hb, _, h5, h6⟩
        · rw [hb] at h2 ⊢; exact h2 h0
        · rw [hb] at h2 ⊢
          have := h2 h5
          omega
      · rcases List.mem_cons.1 he' with rfl | he'
        · rcases hb with ⟨hb, hc⟩ | ⟨hb, _⟩
          · rw [hb] at h2 ⊢
            have hb0 : ¬ (b < 0 ∨ f e'.b.toNat < b) := fun h => hc ⟨ha, h0, h⟩
            have := h2 (by omega)
            omega
          · rw [hb] at h2 ⊢
            exact h2 h0
        · exact h3 e' he' ha h0
  obtain ⟨h1, _, h3⟩ := key L (-1)
  refine ⟨?_, h3⟩
  rcases h1 with h1 | h1
  · left; unfold best; omega
  · exact .inr h1
theorem nxt_min {f : Nat → Int} (m : Nat) (L : List T3) (a : Int) (l : Nat) : (nxt m L f a l = m ∨ ∃ e ∈ L, e.a = a ∧ f e.b.toNat = l ∧ e.b = nxt m L f a l) ∧ ∀ e ∈ L, e.a = a → f e.b.toNat = l → nxt m L f a l ≤ e.b := by
  have key : ∀ (M : List T3) (b : Int), (M.foldl (nstep a f l) b = b ∨ ∃ e ∈ M, e.a = a ∧ f e.b.toNat = l ∧ e.b = M.foldl (nstep a f l) b) ∧ M.foldl (nstep a f l) b ≤ b ∧ ∀ e ∈ M, e.a = a → f e.b.toNat = l → M.foldl (nstep a f l) b ≤ e.b := by
    intro M
    induction M with
    | nil => intro b; exact ⟨.inl rfl, Int.le_refl _, fun e he => by cases he⟩
    | cons e M ih =>
      intro b
      rw [List.foldl_cons]
      obtain ⟨h1, h2, h3⟩ := ih (nstep a f l b e)
      have hb : (nstep a f l b e = b ∧ (e.a = a ∧ f e.b.toNat = l → b ≤ e.b)) ∨ (nstep a f l b e = e.b ∧ e.a = a ∧ f e.b.toNat = l ∧ e.b ≤ b) := by
        unfold nstep
        split
        · rename_i h
          rcases Int.le_total b e.b with h' | h'
          · exact .inl ⟨Int.min_eq_left h', fun _ => h'⟩
          · exact .inr ⟨Int.min_eq_right h', h.1, h.2, h'⟩
        · rename_i h; exact .inl ⟨rfl, fun h' => absurd h' h⟩
      refine ⟨?_, ?_, fun e' he' ha h0 => ?_⟩
      · rcases h1 with h1 | ⟨e', he', h4, h5⟩
        · rcases hb with ⟨hb, _⟩ | ⟨hb, h4, h5, _⟩
          · left; rw [h1, hb]
          · right; exact ⟨e, by simp, h4, h5, by rw [h1, hb]⟩
        · right; exact ⟨e', by simp [he'], h4, h5⟩
      · rcases hb with ⟨hb, _⟩ | ⟨hb, _, _, h6⟩
        · rw [hb] at h2 ⊢; exact h2
        · rw [hb] at h2 ⊢; omega
      · rcases List.mem_cons.1 he' with rfl | he'
        · rcases hb with ⟨hb, hc⟩ | ⟨hb, _⟩
          · rw [hb] at h2 ⊢
            have := hc ⟨ha, h0⟩
            omega
          · rw [hb] at h2 ⊢
            exact h2
        · exact h3 e' he' ha h0
  obtain ⟨h1, _, h3⟩ := key L m
  exact ⟨h1, h3⟩
/-- the next number of the way -/
theorem nxt_bnx {f : Nat → Nat} {L : List T3} {m : Nat} (hE : Bit f = Ed L) (hf : Low f) (hL : EdM m L) {F fr : Nat → Int} {a l : Nat} (hq : ∀ j, fr j = l ↔ F j = l) (hx : ∃ e ∈ L, e.a = a ∧ F e.b.toNat = l) :
    ∃ q : Nat, nxt m L F a l = q ∧ bnx f fr a l 6 = some q ∧ F q = l := by
  obtain ⟨e0, he0, h01, h02⟩ := hx
  obtain ⟨h1, h2⟩ := nxt_min (f := F) m L a l
  have hle := h2 e0 he0 h01 h02
  have hv0 := hL e0 he0
  rcases h1 with h1 | ⟨e, he, h3, h4, h5⟩
  · omega
  · have hv := hL e he
    obtain ⟨q, hqq⟩ := Int.eq_ofNat_of_zero_le (show 0 ≤ nxt m L F a l by omega)
    have hbq : e.b.toNat = q := by omega
    have hB : Bit f a q := by rw [hE]; exact ⟨e, he, h3, by omega⟩
    refine ⟨q, hqq, ?_, by rw [← hbq]; exact h4⟩
    unfold bnx
    rw [List.find?_range_eq_some]
    refine ⟨?_, List.mem_range.2 (hB.lt hf).2, fun j hj => ?_⟩
    · rw [Bool.and_eq_true, beq_iff_eq]
      exact ⟨hB.2, (hq q).2 (by rw [← hbq]; exact h4)⟩
    · rw [Bool.not_eq_true', Bool.and_eq_false_iff]
      by_cases hb : (f a).testBit j = true
      · right
        rw [beq_eq_false_iff_ne]
        intro hfr
        have hBj : Bit f a j := ⟨hB.1, hb⟩
        rw [hE] at hBj
        obtain ⟨e', he', h6, h7⟩ := hBj
        have := h2 e' he' h6 (by rw [show e'.b.toNat = j by omega]; exact (hq j).1 hfr)
        omega
      · left; simpa using hb
theorem way_bway {f : Nat → Nat} {L : List T3} {m : Nat} (hE : Bit f = Ed L) (hf : Low f) (hL : EdM m L) {F fr : Nat → Int} {B : Nat} (hq : ∀ (l : Nat), 1 ≤ l → l ≤ B → ∀ j, fr j = l ↔ F j = l)
    (hn : ∀ (l : Nat) x, 1 ≤ l → F x = (l : Int) + 1 → ∃ e ∈ L, e.a = x ∧ F e.b.toNat = l) :
    ∀ (l a : Nat), l ≤ B → (1 ≤ l → ∃ e ∈ L, e.a = a ∧ F e.b.toNat = l) → way m L F l a = (bway f fr l a).map fun x => ((x : Nat) : Int) := by
  intro l
  induction l with
  | zero => intro a _ _; rfl
  | succ l ih =>
    intro a hl hx
    obtain ⟨q, h1, h2, h3⟩ := nxt_bnx hE hf hL (hq (l + 1) (by omega) hl) (hx (by omega))
    have h2' : bnx f fr a ((l : Int) + 1) 6 = some q := by simpa using h2
    have h3' : F q = (l : Int) + 1 := by simpa using h3
    unfold way bway
    rw [h1, h2']
    simp only [Option.getD_some, List.map_cons]
    rw [ih q (by omega) (fun h => hn l q h h3')]
/-- the cycle from s -/
theorem cyc_back {L : List T3} {m s : Nat} {fr : Nat → Int} (hm : m ≤ 6) (hL : EdM m L) (hs : s < m) (hD : Dist (rowsOf [1, 2, 3, 4] L) s fr) (ht : Relation.TransGen (Ed L) s s) :
    cycS m L s = some ((s :: bway (rowsOf [1, 2, 3, 4] L) fr (fr s - 1).toNat s).map fun x => ((x : Nat) : Int)) := by
  have h6 := edM_ed6 hm hL
  have hE : Bit (rowsOf [1, 2, 3, 4] L) = Ed L := bit_ed h6 (fun e => ⟨fun he => ⟨he, by obtain ⟨_, _, _, _, _, h1, h2⟩ := hL e he; simp; omega⟩, fun h => h.1⟩)
  have hlow := rowsOf_low [1, 2, 3, 4] L h6
  generalize rowsOf [1, 2, 3, 4] L = f at hD hE hlow
  have hw := far_w hE hs hL
  have hFs : farT L s m s = 0 := by
    rcases hw s with ⟨_, h⟩ | ⟨d, h1, _, h3⟩
    · exact absurd rfl (h 0)
    · rcases Nat.eq_zero_or_pos d with h0 | h0
      · rw [h1, h0]; rfl
      · exact absurd rfl (h3 0 h0)
  -- the number of edges of the least way back
  have hns : ¬ cycS m L s = none := fun h => (cycS_some hL hs).1 h ht
  unfold cycS at hns ⊢
  obtain ⟨hb1, hb2⟩ := best_min (f := farT L s m) L s
  have hb0 : ¬ best L (farT L s m) s < 0 := fun h => hns (if_pos h)
  rw [if_neg hb0]
  rcases hb1 with hb1 | ⟨e, he, ha, hbe⟩
  · exact absurd hb1 hb0
  generalize hF : farT L s m = F at *
  obtain ⟨B, hB⟩ := Int.eq_ofNat_of_zero_le (show 0 ≤ best L F s by omega)
  rw [hB] at hbe hb2 ⊢
  have hve := hL e he
  have hBit : Bit f s e.b.toNat := by rw [hE]; exact ⟨e, he, ha, by omega⟩
  have hwB : Wlk f s (B + 1) s := by
    refine ⟨_, hBit, ?_⟩
    rcases hw e.b.toNat with ⟨h, _⟩ | ⟨d, h1, h2, _⟩
    · omega
    · have : d = B := by omega
      subst this
      exact h2
  have hmin : ∀ n, n < B → ¬ Wlk f s (n + 1) s := by
    rintro n hn ⟨u, hu, hun⟩
    have hu' := hu
    rw [hE] at hu'
    obtain ⟨e', he', h1, h2⟩ := hu'
    have hle : F u ≤ n := by
      rcases hw u with ⟨_, h⟩ | ⟨d, h3, _, h4⟩
      · exact absurd hun (h n)
      · rcases Nat.lt_or_ge n d with h | h
        · exact absurd hun (h4 n h)
        · omega
    have h0 : 0 ≤ F u := by
      rcases hw u with ⟨_, h⟩ | ⟨d, h3, _, h4⟩
      · exact absurd hun (h n)
      · omega
    have := hb2 e' he' h1 (by rw [show e'.b.toNat = u by omega]; exact h0)
    rw [show e'.b.toNat = u by omega] at this
    omega
  have hfs : fr s = (B : Int) + 1 := by
    rcases hD s with ⟨_, h⟩ | ⟨d, h1, _, h2, h3⟩
    · exact absurd hwB (h B)
    · rcases Nat.lt_trichotomy d B with h | h | h
      · exact absurd h2 (hmin d h)
      · rw [h1, h]
      · exact absurd hwB (h3 B h)
  have hq : ∀ (l : Nat), 1 ≤ l → l ≤ B → ∀ j, fr j = l ↔ F j = l := by
    intro l hl1 hl2 j
    by_cases hjs : j = s
    · subst hjs
      rw [hfs, hFs]
      constructor <;> intro h <;> omega
    · have h0 : ¬ Wlk f s 0 j := hjs
      constructor
      · intro h
        rcases hD j with ⟨h1, _⟩ | ⟨d, h1, _, h2, h3⟩
        · omega
        · rcases hw j with ⟨_, h5⟩ | ⟨d', h4, h5, h6⟩
          · exact absurd h2 (h5 _)
          · rcases Nat.eq_zero_or_pos d' with h7 | h7
            · subst h7; exact absurd h5 h0
            · obtain ⟨d'', rfl⟩ : ∃ d'', d' = d'' + 1 := ⟨d' - 1, by omega⟩
              rcases Nat.lt_trichotomy d'' d with h | h | h
              · exact absurd h5 (h3 _ h)
              · omega
              · exact absurd h2 (h6 _ (by omega))
      · intro h
        rcases hw j with ⟨h1, _⟩ | ⟨d', h4, h5, h6⟩
        · omega
        · obtain ⟨d'', rfl⟩ : ∃ d'', d' = d'' + 1 := ⟨d' - 1, by omega⟩
          rcases hD j with ⟨_, h1⟩ | ⟨d, h1, _, h2, h3⟩
          · exact absurd h5 (h1 _)
          · rcases Nat.lt_trichotomy d'' d with h | h | h
            · exact absurd h5 (h3 _ h)
            · omega
            · exact absurd h2 (h6 _ (by omega))
  have hn : ∀ (l : Nat) x, 1 ≤ l → F x = (l : Int) + 1 → ∃ e ∈ L, e.a = x ∧ F e.b.toNat = l := by
    intro l x _ h
    rcases hw x with ⟨h1, _⟩ | ⟨d, h1, h2, h3⟩
    · omega
    · obtain rfl : d = l + 1 := by omega
      obtain ⟨u, hu, hun⟩ := h2
      have hu' := hu
      rw [hE] at hu'
      obtain ⟨e', he', h4, h5⟩ := hu'
      refine ⟨e', he', h4, ?_⟩
      rw [show e'.b.toNat = u by omega]
      rcases hw u with ⟨_, h6⟩ | ⟨d', h6, h7, h8⟩
      · exact absurd hun (h6 _)
      · rcases Nat.lt_trichotomy d' l with h | h | h
        · exact absurd ⟨u, hu, h7⟩ (h3 (d' + 1) (by omega))
        · rw [h6, h]
        · exact absurd hun (h8 _ h)
  rw [hfs, show ((B : Int) + 1 - 1).toNat = B by omega]
  simp only [List.map_cons]
  rw [← way_bway hE hlow hL hq hn B s (Nat.le_refl _) (fun _ => ⟨e, he, ha, hbe⟩)]
  simp
end Go.Proofs.YtbglkjmoednapaaDoor
