/-
  What a round of the drawn history keeps: the transactions so far, the store, what the transaction has seen, the reader, the transaction's own block.
-/
import Derived.Test.YtdgfipoibnjhaaaDoorDrawH
namespace Go.Proofs.YtdgfipoibnjhaaaDoor
set_option linter.unusedSimpArgs false
set_option linter.unusedVariables false
set_option maxRecDepth 100000
open Go.RowKit

/-- the block that a row lies in is of the row's type -/
theorem own_at {w : World} {B k n : Nat} {e : TypeId} {v : Value} {xs : List Value} (h : w.ownsRow B e k v n xs) {g : Nat} (hg : v.ownBlock = some g) : B ≤ g ∧ ∃ cs, w.heap[g]? = some (.cells cs e (0, 0)) := by
  rcases h.2 with ⟨rfl, _⟩ | ⟨g', cap, cur, rfl, hb, hh, _⟩
  · simp [Value.ownBlock] at hg
  · simp only [Value.ownBlock] at hg
    obtain rfl := Option.some.inj hg
    exact ⟨hb, cur, hh⟩
theorem own_type_ne {w : World} {B k n : Nat} {e t : TypeId} {v : Value} {xs : List Value} {g : Nat} {cs : Array Value} (h : w.ownsRow B e k v n xs) (hg : w.heap[g]? = some (.cells cs t (0, 0))) (hne : t ≠ e) : v.ownBlock = none ∨ v.ownBlock ≠ some g := by
  refine .inr (fun he => ?_)
  obtain ⟨_, cs', h2⟩ := own_at h he
  rw [hg] at h2
  cases h2
  exact hne rfl

structure Keep (r lim : Nat) (w : World) (vo : Value) (ps : List PT) (vs : Value) (st : List Int) (vq : Value) (se : List Int) (P : Nat) (W : World) : Prop where
  ot : OwnT W w.heap.size lim vo ps
  os : Own1 W w.heap.size 3 vs st
  oq : Own1 W w.heap.size 3 vq se
  rd : RdrB W r P
  gr : w.grownBy W (some r)
  lr : r < w.heap.size
  lb : w.heap.size ≤ lim
  ne : vs.ownBlock ≠ vq.ownBlock
section
variable {r lim P P' : Nat} {w W W' : World} {vo vs vq : Value} {ps : List PT} {st se : List Int}
theorem grown_sub {a b c : World} {row : Option Nat} {r : Nat} (h : a.grownBy b (some r)) (hg : b.grownBy c row) (hr : ∀ g, row = some g → a.heap.size ≤ g) : a.grownBy c (some r) :=
  ⟨hg.os.trans h.os, hg.tape.trans h.tape, hg.output.trans h.output, Nat.le_trans h.size hg.size, fun k hk hn => (hg.block k (Nat.lt_of_lt_of_le hk h.size) (fun e => by have := hr k e.symm; omega)).trans (h.block k hk hn)⟩
theorem Keep.more (h : Keep r lim w vo ps vs st vq se P W) (hq : P ≤ P') : Keep r lim w vo ps vs st vq se P' W := { h with rd := h.rd.mono hq }
theorem Keep.grown {row : Option Nat} (h : Keep r lim w vo ps vs st vq se P W) (hg : W.grownBy W' row) (h1 : ∀ g, row = some g → lim ≤ g ∧ some g ≠ vo.ownBlock ∧ ∃ cs t, W.heap[g]? = some (.cells cs t (0, 0)) ∧ t ≠ 3) : Keep r lim w vo ps vs st vq se P W' := by
  cases row with
  | none =>
    have e : ∀ {B k n : Nat} {t : TypeId} {v : Value} {xs : List Value}, W.ownsRow B t k v n xs → W'.ownsRow B t k v n xs := fun hh => World.ownsRow.kept hh hg (or_none _)
    exact ⟨⟨e h.ot.1, fun p hp => ⟨e (h.ot.2 p hp).1, (h.ot.2 p hp).2⟩⟩, e h.os, e h.oq, h.rd.grown hg (fun g hg => by cases hg), grown_sub h.gr hg (fun g hg => by cases hg), h.lr, h.lb, h.ne⟩
  | some g =>
    obtain ⟨hl, hv, cs, t, hh, ht⟩ := h1 g rfl
    have hlb := h.lb
    have hlr := h.lr
    exact ⟨h.ot.grown hg hv (fun g' e => .inr (.inl (by have := Option.some.inj e; omega))), World.ownsRow.kept h.os hg (own_type_ne h.os hh ht), World.ownsRow.kept h.oq hg (own_type_ne h.oq hh ht),
      h.rd.grown hg (fun g' e => by have := Option.some.inj e; omega), grown_sub h.gr hg (fun g' e => by have := Option.some.inj e; omega), hlr, hlb, h.ne⟩
theorem Keep.ext (h : Keep r lim w vo ps vs st vq se P W) (hE : Ext W W') : Keep r lim w vo ps vs st vq se P W' := h.grown (row := none) (grown_ext hE _) (fun g hg => by cases hg)
theorem Keep.pick (h : Keep r lim w vo ps vs st vq se P W) (hg : W.grownBy W' (some r)) (hr : RdrB W' r P') : Keep r lim w vo ps vs st vq se P' W' := by
  have hlr := h.lr
  have ho : ∀ {k n : Nat} {t : TypeId} {v : Value} {xs : List Value}, W.ownsRow w.heap.size t k v n xs → v.ownBlock = none ∨ v.ownBlock ≠ some r := fun hh => .inr (fun e => by have := (own_at hh e).1; omega)
  have ht : some r ≠ vo.ownBlock := fun e => by have := (own_at h.ot.1 e.symm).1; omega
  exact ⟨h.ot.grown hg ht (fun g e => .inl (by have := Option.some.inj e; omega)), World.ownsRow.kept h.os hg (ho h.os), World.ownsRow.kept h.oq hg (ho h.oq), hr, grown_trans h.gr hg, hlr, h.lb, h.ne⟩
theorem Keep.put {g n c i : Nat} (h : Keep r lim w vo ps vs st (.slice (some ⟨g, 0, none⟩) n c) se P W) (hi : i < se.length) (y : Int) : Keep r lim w vo ps vs st (.slice (some ⟨g, 0, none⟩) n c) (se.set i y) P (W.setCell ⟨g, i, none⟩ (.int .i64 y)) := by
  have hlr := h.lr
  obtain ⟨hB, cs, hh⟩ := own_at h.oq (g := g) rfl
  have hg : W.grownBy (W.setCell ⟨g, i, none⟩ (.int .i64 y)) (some g) := grown_set _
  have ht : some g ≠ vo.ownBlock := fun e => by
    obtain ⟨_, cs', h2⟩ := own_at h.ot.1 e.symm
    rw [hh] at h2
    cases h2
  exact ⟨h.ot.grown hg ht (fun g' e => .inr (.inr ⟨cs, 3, by rw [← Option.some.inj e]; exact hh, by decide⟩)), World.ownsRow.kept h.os hg (.inr h.ne), Own1.set_ h.oq hi y,
    h.rd.grown hg (fun g' e => by have := Option.some.inj e; omega), grown_sub h.gr hg (fun g' e => by have := Option.some.inj e; omega), hlr, h.lb, h.ne⟩
/-- a new row of what is seen -/
theorem Keep.seen {vq' : Value} {se' : List Int} (h : Keep r lim w vo ps vs st vq se P W) (hE : Ext W W') (hq : Own1 W' W.heap.size 3 vq' se') (hb : ∃ g, vq'.ownBlock = some g) : Keep r lim w vo ps vs st vq' se' P W' := by
  have h2 := h.ext hE
  have hz := h.gr.size
  refine { h2 with oq := hq.below hz, ne := fun e => ?_ }
  obtain ⟨g, hg⟩ := hb
  have h3 := (own_at hq hg).1
  rw [hg] at e
  obtain ⟨_, cs, h4⟩ := own_at h.os e
  have := (Array.getElem?_eq_some_iff.1 h4).1
  omega
end

/-- .. and the transaction's own block and operations -/
structure Inn (r lim : Nat) (w : World) (vo : Value) (ps : List PT) (vs : Value) (st : List Int) (vq : Value) (g : Nat) (s : Int) (d : Bool) (se : List Int) (A : Option Addr) (c : Nat) (ops : List T3) (P : Nat) (W : World) : Prop where
  kp : Keep r lim w vo ps vs st vq se P W
  bt : Blk W g 32 #[.int .i64 s, .slice A ops.length c, .bool d]
  oo : Own3 W lim 34 (.slice A ops.length c) ops
  lg : lim ≤ g
  nv : some g ≠ vo.ownBlock
section
variable {r lim P P' g c : Nat} {w W W' : World} {vo vs vq : Value} {ps : List PT} {st se : List Int} {s : Int} {d : Bool} {A : Option Addr} {ops : List T3}
theorem Inn.more (h : Inn r lim w vo ps vs st vq g s d se A c ops P W) (hq : P ≤ P') : Inn r lim w vo ps vs st vq g s d se A c ops P' W := { h with kp := h.kp.more hq }
theorem Inn.ext (h : Inn r lim w vo ps vs st vq g s d se A c ops P W) (hE : Ext W W') : Inn r lim w vo ps vs st vq g s d se A c ops P W' := ⟨h.kp.ext hE, h.bt.ext hE, h.oo.ext hE, h.lg, h.nv⟩
theorem Inn.pick (h : Inn r lim w vo ps vs st vq g s d se A c ops P W) (hg : W.grownBy W' (some r)) (hr : RdrB W' r P') : Inn r lim w vo ps vs st vq g s d se A c ops P' W' := by
  have hlr := h.kp.lr
  have hlb := h.kp.lb
  have hlg := h.lg
  exact ⟨h.kp.pick hg hr, blkg h.bt hg (by omega), World.ownsRow.kept h.oo hg (.inr (fun e => by have := (own_at h.oo e).1; omega)), hlg, h.nv⟩
theorem Inn.put {q n cq i : Nat} (h : Inn r lim w vo ps vs st (.slice (some ⟨q, 0, none⟩) n cq) g s d se A c ops P W) (hi : i < se.length) (y : Int) : Inn r lim w vo ps vs st (.slice (some ⟨q, 0, none⟩) n cq) g s d (se.set i y) A c ops P (W.setCell ⟨q, i, none⟩ (.int .i64 y)) := by
  obtain ⟨hB, cs, hh⟩ := own_at h.kp.oq (g := q) rfl
  have hg : W.grownBy (W.setCell ⟨q, i, none⟩ (.int .i64 y)) (some q) := grown_set _
  have hbt : W.heap[g]? = some (.cells _ 32 (0, 0)) := h.bt
  refine ⟨h.kp.put hi y, blkg h.bt hg (fun e => ?_), World.ownsRow.kept h.oo hg (own_type_ne h.oo hh (by decide)), h.lg, h.nv⟩
  rw [e] at hbt
  rw [hbt] at hh
  cases hh
/-- behind an append to the operations and the store of the new slice -/
theorem Inn.app {A' : Option Addr} {c' : Nat} {ops' : List T3} (h : Inn r lim w vo ps vs st vq g s d se A c ops P W) (hg : W.grownBy W' (Value.slice A ops.length c).ownBlock) (ho : Own3 W' lim 34 (.slice A' ops'.length c') ops') :
    Inn r lim w vo ps vs st vq g s d se A' c' ops' P (W'.setCell ⟨g, 1, none⟩ (.slice A' ops'.length c')) := by
  have hbt : W.heap[g]? = some (.cells _ 32 (0, 0)) := h.bt
  have hne : (Value.slice A ops.length c).ownBlock ≠ some g := fun e => by
    obtain ⟨_, cs', h2⟩ := own_at h.oo e
    rw [hbt] at h2
    cases h2
  have k1 : Keep r lim w vo ps vs st vq se P W' := h.kp.grown hg (fun q e => by
    obtain ⟨h1, cs, h2⟩ := own_at h.oo e
    refine ⟨h1, fun e' => ?_, cs, _, h2, by decide⟩
    obtain ⟨_, cs', h3⟩ := own_at h.kp.ot.1 e'.symm
    rw [h2] at h3
    cases h3)
  have b1 : Blk W' g 32 #[.int .i64 s, .slice A ops.length c, .bool d] := (hg.block g h.bt.lt (fun e => hne e.symm)).trans h.bt
  have hs : W'.grownBy (W'.setCell ⟨g, 1, none⟩ (.slice A' ops'.length c')) (some g) := grown_set _
  have b2 := b1.set_ 1 (.slice A' ops'.length c')
  refine ⟨k1.grown hs (fun q e => ?_), ?_, World.ownsRow.kept ho hs (own_type_ne ho (show W'.heap[g]? = some (.cells _ 32 (0, 0)) from b1) (by decide)), h.lg, h.nv⟩
  · obtain rfl := Option.some.inj e
    exact ⟨h.lg, h.nv, _, _, b1, by decide⟩
  · simpa using b2
theorem Inn.cells (h : Inn r lim w vo ps vs st vq g s d se A c ops P W) : W.cell? ⟨g, 0, none⟩ = some (.int .i64 s) ∧ W.cell? ⟨g, 1, none⟩ = some (.slice A ops.length c) ∧ W.cell? ⟨g, 2, none⟩ = some (.bool d) ∧ (∀ o, W.frozen? ⟨g, o, none⟩ = false) ∧ g < W.heap.size := by
  have hB := h.bt
  refine ⟨?_, ?_, ?_, hB.frozen, hB.lt⟩ <;> (rw [hB.cell]; rfl)
/-- a number that was seen -/
theorem Inn.seenAt {q n cq i : Nat} (h : Inn r lim w vo ps vs st (.slice (some ⟨q, 0, none⟩) n cq) g s d se A c ops P W) (hi : i < se.length) (hse : ∀ x ∈ se, SmallI x) : ∃ z, SmallI z ∧ W.cell? ⟨q, i, none⟩ = some (.int .i64 z) ∧ (∀ o, W.frozen? ⟨q, o, none⟩ = false) ∧ q < W.heap.size ∧ q ≠ g := by
  obtain ⟨A', c', hv, hO, hf⟩ := h.kp.oq.form
  simp only [Value.slice.injEq] at hv
  obtain ⟨rfl, _, rfl⟩ := hv
  obtain ⟨x, b, off, hx, e, hS, hb, hc⟩ := hO.at_ hi
  simp only [Option.some.injEq, Addr.mk.injEq] at e
  obtain ⟨rfl, rfl, _⟩ := e
  refine ⟨x, hse x (List.mem_of_getElem? hx), by simpa using hc, (hf _ rfl).2.2, (hf _ rfl).2.1, fun e => ?_⟩
  subst e
  obtain ⟨_, cs, h2⟩ := own_at h.kp.oq (g := q) rfl
  have h3 : W.heap[q]? = some (.cells _ 32 (0, 0)) := h.bt
  rw [h3] at h2
  cases h2
end
theorem lit_five (w : World) (t : TypeId) (k : Nat) (hk : k < 5) : ∃ z : Nat, (w.alloc (.cells #[.int .i64 0, .int .i64 0, .int .i64 1, .int .i64 1, .int .i64 2] t)).cell? ⟨w.heap.size, k, none⟩ = some (.int .i64 z) ∧ z < 3 := by
  rw [lit_cell]
  obtain rfl | rfl | rfl | rfl | rfl : k = 0 ∨ k = 1 ∨ k = 2 ∨ k = 3 ∨ k = 4 := by omega
  · exact ⟨0, rfl, by omega⟩
  · exact ⟨0, rfl, by omega⟩
  · exact ⟨1, rfl, by omega⟩
  · exact ⟨1, rfl, by omega⟩
  · exact ⟨2, rfl, by omega⟩
theorem set_small {se : List Int} (h : ∀ x ∈ se, SmallI x) {y : Int} (hy : SmallI y) (i : Nat) : ∀ x ∈ se.set i y, SmallI x := fun x hx => by
  rcases List.mem_or_eq_of_mem_set hx with hx | rfl
  · exact h x hx
  · exact hy
theorem app_small {ops : List T3} (h : ∀ o ∈ ops, SmallOp o) {y : T3} (hy : SmallOp y) : ∀ o ∈ ops ++ [y], SmallOp o := fun o ho => by
  rcases List.mem_append.1 ho with ho | ho
  · exact h o ho
  · obtain rfl := List.mem_singleton.1 ho
    exact hy
/-- the store that was seen becomes the store -/
theorem Keep.take {r lim P : Nat} {w W : World} {vo vs vq : Value} {ps : List PT} {st se : List Int} (h : Keep r lim w vo ps vs st vq se P W) (hq : ∃ g, vq.ownBlock = some g) : Keep r lim w vo ps vq se (.slice none 0 0) [] P W := by
  obtain ⟨g, hg⟩ := hq
  exact { h with os := h.oq, oq := Own1.nil, ne := by rw [hg]; simp [Value.ownBlock] }
theorem Keep.drop {r lim P : Nat} {w W : World} {vo vs vq : Value} {ps : List PT} {st se : List Int} (h : Keep r lim w vo ps vs st vq se P W) (hq : ∃ g, vs.ownBlock = some g) : Keep r lim w vo ps vs st (.slice none 0 0) [] P W := by
  obtain ⟨g, hg⟩ := hq
  exact { h with oq := Own1.nil, ne := by rw [hg]; simp [Value.ownBlock] }
/-- behind an append to the transactions -/
theorem Keep.next {r lim lim' P : Nat} {w W W' : World} {vo vo' vs vq : Value} {ps ps' : List PT} {st se : List Int} (h : Keep r lim w vo ps vs st vq se P W) (hg : W.grownBy W' vo.ownBlock) (ho : OwnT W' w.heap.size lim' vo' ps') (hl : w.heap.size ≤ lim') : Keep r lim' w vo' ps' vs st vq se P W' := by
  have hlr := h.lr
  have hb : ∀ g, vo.ownBlock = some g → w.heap.size ≤ g := fun g e => (own_at h.ot.1 e).1
  have hk : ∀ {k n : Nat} {v : Value} {xs : List Value}, W.ownsRow w.heap.size 3 k v n xs → v.ownBlock = none ∨ v.ownBlock ≠ vo.ownBlock := fun hh => own_ne hh h.ot.1 (by decide)
  exact ⟨ho, World.ownsRow.kept h.os hg (hk h.os), World.ownsRow.kept h.oq hg (hk h.oq), h.rd.grown hg (fun g e => by have := hb g e; omega), grown_sub h.gr hg hb, hlr, hl, h.ne⟩
/-- what stands at the head of the inner loop, with j rounds to come -/
def HeadI (r PQ N lim : Nat) (w : World) (vo : Value) (ps : List PT) (vs : Value) (st : List Int) (q cq g : Nat) (s : Int) (d : Bool) (j : Nat) (vn : Value) (W : World) : Prop :=
  ∃ (nx PP : Nat) (se : List Int) (A : Option Addr) (c : Nat) (ops : List T3), vn = .int .i64 nx ∧ nx + j ≤ N ∧ PP + 6 * j ≤ PQ ∧ se.length = 3 ∧ (∀ x ∈ se, SmallI x) ∧ ops.length + j ≤ 4 ∧ (∀ o ∈ ops, SmallOp o) ∧
    Inn r lim w vo ps vs st (.slice (some ⟨q, 0, none⟩) 3 cq) g s d se A c ops PP W
theorem Inn.appCells {r lim P g c : Nat} {w W W' : World} {vo vs vq : Value} {ps : List PT} {st se : List Int} {s : Int} {d : Bool} {A : Option Addr} {ops : List T3} (h : Inn r lim w vo ps vs st vq g s d se A c ops P W) (hg : W.grownBy W' (Value.slice A ops.length c).ownBlock) :
    W'.cell? ⟨g, 1, none⟩ = some (.slice A ops.length c) ∧ (∀ o, W'.frozen? ⟨g, o, none⟩ = false) ∧ g < W'.heap.size := by
  have hbt : W.heap[g]? = some (.cells _ 32 (0, 0)) := h.bt
  have hne : (Value.slice A ops.length c).ownBlock ≠ some g := fun e => by
    obtain ⟨_, cs', h2⟩ := own_at h.oo e
    rw [hbt] at h2
    cases h2
  have b1 : Blk W' g 32 #[.int .i64 s, .slice A ops.length c, .bool d] := (hg.block g h.bt.lt (fun e => hne e.symm)).trans h.bt
  exact ⟨by rw [b1.cell]; rfl, b1.frozen, b1.lt⟩
theorem lit_cell_set (w : World) (a : Addr) (v : Value) (cs : Array Value) (t : TypeId) (k : Nat) : ((w.setCell a v).alloc (.cells cs t)).cell? ⟨w.heap.size, k, none⟩ = cs[k]? := by
  have h : (w.setCell a v).heap.size = w.heap.size := by simp [World.setCell]
  rw [← h]
  exact lit_cell _ _ _ _
theorem Own3.form' {w : World} {base : Nat} {e : TypeId} {A : Option Addr} {n c : Nat} {xs : List T3} (h : Own3 w base e (.slice A n c) xs) : True ∧ ∀ a, A = some a → a.block < w.heap.size := by
  obtain ⟨A', c', hv, _, hf⟩ := h.form
  simp only [Value.slice.injEq] at hv
  obtain ⟨rfl, _, rfl⟩ := hv
  exact ⟨trivial, fun a ha => (hf a ha).2.1⟩
theorem app_smallP {ps : List PT} (h : ∀ p ∈ ps, p.small) {q : PT} (hq : q.small) : ∀ p ∈ ps ++ [q], p.small := fun p hp => by
  rcases List.mem_append.1 hp with hp | hp
  · exact h p hp
  · obtain rfl := List.mem_singleton.1 hp
    exact hq
theorem OwnT.at_ {w : World} {B lim g n c i : Nat} {ps : List PT} {p : PT} (h : OwnT w B lim (.slice (some ⟨g, 0, none⟩) n c) ps) (hp : ps[i]? = some p) :
    w.cell? ⟨g, i * 3, none⟩ = some (.int .i64 p.s) ∧ w.cell? ⟨g, i * 3 + 1, none⟩ = some (.slice p.A p.ops.length p.c) ∧ w.cell? ⟨g, i * 3 + 2, none⟩ = some (.bool p.d) ∧ (∀ o, w.frozen? ⟨g, o, none⟩ = false) ∧ g < w.heap.size := by
  have hi : i < ps.length := (List.getElem?_eq_some_iff.1 hp).1
  rcases h.1.2 with ⟨hv, _⟩ | ⟨g', cap, cur, hv, hb, hg, hle, hm, hs, ht⟩
  · cases hv
  · cases hv
    have hcell : ∀ j u, p.cells[j]? = some u → w.cell? ⟨g, i * 3 + j, none⟩ = some u := fun j u hu => by
      have h5 := flatP_at ps i p hp j u hu
      have h7 : j < 3 := by have := (List.getElem?_eq_some_iff.1 hu).1; simpa [PT.cells] using this
      rw [cell_of_row w g _ cur _ (0, 0) hg, ← h5, ← ht, List.getElem?_take, if_pos (by omega)]
      simp
    exact ⟨hcell 0 _ rfl, hcell 1 _ rfl, hcell 2 _ rfl, fun o => by simp [World.frozen?, hg], (Array.getElem?_eq_some_iff.1 hg).1⟩
theorem OwnT.swap {w : World} {B lim g n c i : Nat} {ps : List PT} {p0 p1 : PT} (h : OwnT w B lim (.slice (some ⟨g, 0, none⟩) n c) ps) (hp0 : ps[i]? = some p0) (hp1 : ps[i + 1]? = some p1) {V V3 : World}
    (hV : V = ((w.setCell ⟨g, i * 3, none⟩ (.int .i64 p1.s)).setCell ⟨g, i * 3 + 1, none⟩ (.slice p1.A p1.ops.length p1.c)).setCell ⟨g, i * 3 + 2, none⟩ (.bool p1.d))
    (hV3 : V3 = ((V.setCell ⟨g, (i + 1) * 3, none⟩ (.int .i64 p0.s)).setCell ⟨g, (i + 1) * 3 + 1, none⟩ (.slice p0.A p0.ops.length p0.c)).setCell ⟨g, (i + 1) * 3 + 2, none⟩ (.bool p0.d)) :
    OwnT V3 B lim (.slice (some ⟨g, 0, none⟩) n c) ((ps.set i p1).set (i + 1) p0) ∧ w.grownBy V3 (some g) := by
  have hi1 : i + 1 < ps.length := (List.getElem?_eq_some_iff.1 hp1).1
  obtain ⟨o0, l0⟩ := h.2 p0 (List.mem_of_getElem? hp0)
  obtain ⟨o1, l1⟩ := h.2 p1 (List.mem_of_getElem? hp1)
  have g1 : w.grownBy V (some g) := by
    rw [hV]
    exact grown_trans (grown_trans (grown_set _) (grown_set _)) (grown_set _)
  have h1 : OwnT V B lim (.slice (some ⟨g, 0, none⟩) n c) (ps.set i p1) := by
    rw [hV]
    exact h.put (by omega) p1 o1 l1
  have o0' : Own3 V B 34 (.slice p0.A p0.ops.length p0.c) p0.ops := World.ownsRow.kept o0 g1 (own_ne o0 h.1 (by decide))
  have h3 := h1.put (i := i + 1) (by rw [List.length_set]; omega) p0 o0' l0
  rw [hV3]
  exact ⟨h3, grown_trans g1 (grown_trans (grown_trans (grown_set _) (grown_set _)) (grown_set _))⟩
theorem set_smallP {ps : List PT} (h : ∀ p ∈ ps, p.small) {q : PT} (hq : q.small) (i : Nat) : ∀ p ∈ ps.set i q, p.small := fun p hp => by
  rcases List.mem_or_eq_of_mem_set hp with hp | rfl
  · exact h p hp
  · exact hq
theorem lit_two (w : World) (t : TypeId) (k : Nat) (hk : k < 2) : ∃ z : Int, (w.alloc (.cells #[.int .i64 (-1), .int .i64 4] t)).cell? ⟨w.heap.size, k, none⟩ = some (.int .i64 z) ∧ -1 ≤ z ∧ z ≤ 4 := by
  rw [lit_cell]
  obtain rfl | rfl : k = 0 ∨ k = 1 := by omega
  · exact ⟨-1, rfl, by omega, by omega⟩
  · exact ⟨4, rfl, by omega, by omega⟩
theorem two_small : ∀ o ∈ ([⟨2, 0, 90⟩, ⟨2, 0, 90⟩] : List T3), SmallOp o := fun o ho => by
  simp only [List.mem_cons, List.not_mem_nil, or_false, or_self] at ho
  subst ho
  exact smallOp (by omega) (by omega) (by omega) (by omega) (by omega) (by omega)
theorem lit_cell2 (w : World) (o : Obj) (cs : Array Value) (t : TypeId) (k : Nat) : ((w.alloc o).alloc (.cells cs t)).cell? ⟨w.heap.size + 1, k, none⟩ = cs[k]? := by
  have h : (w.alloc o).heap.size = w.heap.size + 1 := by simp
  rw [← h]
  exact lit_cell _ _ _ _
theorem OwnT.ext {w w' : World} {B lim : Nat} {v : Value} {ps : List PT} (h : OwnT w B lim v ps) (hE : Ext w w') : OwnT w' B lim v ps :=
  ⟨World.ownsRow.kept h.1 (row := none) (grown_ext hE _) (or_none _), fun p hp => ⟨(h.2 p hp).1.ext hE, (h.2 p hp).2⟩⟩
theorem OwnT.below {w : World} {B B' lim : Nat} {v : Value} {ps : List PT} (h : OwnT w B lim v ps) (hb : B' ≤ B) : OwnT w B' lim v ps := by
  refine ⟨⟨h.1.1, ?_⟩, fun p hp => ⟨(h.2 p hp).1.below hb, (h.2 p hp).2⟩⟩
  rcases h.1.2 with h2 | ⟨g, cap, cur, hv, hg, r⟩
  · exact .inl h2
  · exact .inr ⟨g, cap, cur, hv, by omega, r⟩
theorem smallI_nat {n : Nat} (h : n ≤ 1000) : SmallI n := ⟨by omega, by omega⟩
/-- behind a picked number the round of the inner loop ends so -/
theorem HeadI.of {r PQ N lim : Nat} {w : World} {vo : Value} {ps : List PT} {vs : Value} {st : List Int} {q cq g : Nat} {s : Int} {d : Bool} {j : Nat} {W : World} (nx PP : Nat) (se : List Int) (A : Option Addr) (c : Nat) (ops : List T3) (h1 : nx + j ≤ N) (h2 : PP + 6 * j ≤ PQ) (h3 : se.length = 3) (h4 : ∀ x ∈ se, SmallI x) (h5 : ops.length + j ≤ 4) (h6 : ∀ o ∈ ops, SmallOp o)
    (h : Inn r lim w vo ps vs st (.slice (some ⟨q, 0, none⟩) 3 cq) g s d se A c ops PP W) : HeadI r PQ N lim w vo ps vs st q cq g s d j (.int .i64 nx) W := ⟨nx, PP, se, A, c, ops, rfl, h1, h2, h3, h4, h5, h6, h⟩
end Go.Proofs.YtdgfipoibnjhaaaDoor
