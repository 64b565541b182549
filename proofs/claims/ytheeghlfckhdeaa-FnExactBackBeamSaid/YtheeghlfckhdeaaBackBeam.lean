/- The walk of the law FnExactBackBeam (its printed walk is too long for one file of a claim): where both sides come to the same beam and the same answer, it returns true. No condition. The callees' contracts are the printed ones. -/
import Derived.Test.YtheeghlfckhdeaaPFnExactBackBeamx1
import Derived.Deep.RegionHeld3
import Derived.Deep.DeepCutAuto
import Derived.Tactics2
import Derived.WalkSpells
import Derived.StillTactics
import Derived.Laws.Pointers
namespace Go.Proofs.Ytheeghlfckhdeaa.BackBeam
open Go.RowKit Go.Proofs.Ytheeghlfckhdeaa.PFnExactBackBeam Go.Proofs.YtheeghlfckhdeaaW.PrintWords
set_option linter.unusedVariables false
set_option linter.unusedSimpArgs false

theorem blk_of {w : World} {g : Nat} {cs : Array Value} {t : TypeId} (h : w.heap[g]? = some (.cells cs t (0, 0))) (i : Nat) : w.cell? ⟨g, i, none⟩ = cs[i]? := by simp [World.cell?, h]
theorem blk_first (w : World) (cs : Array Value) (t : TypeId) : (w.alloc (.cells cs t)).heap[w.heap.size]? = some (.cells cs t (0, 0)) := (MapKept.heap_alloc w _).1
theorem blk_next {w w1 : World} {g : Nat} {o : Obj} (h : w.heap[g]? = some o) (hb : Below w.heap.size w w1) : w1.heap[g]? = some o := (hb.block g (Array.getElem?_eq_some_iff.1 h).1).trans h

theorem bcell {W w1 : World} (hb : Below W.heap.size W w1) : (∀ b o, b < W.heap.size → w1.cell? ⟨b, o, none⟩ = W.cell? ⟨b, o, none⟩) ∧ (∀ b o, b < W.heap.size → w1.frozen? ⟨b, o, none⟩ = W.frozen? ⟨b, o, none⟩) :=
  ⟨fun b o h => hb.cell (p := ⟨b, o, none⟩) h, fun b o h => hb.frozen (p := ⟨b, o, none⟩) h⟩
theorem cell_keep {w w1 : World} {p : Addr} {v : Value} (hb : Below w.heap.size w w1) (h : w.cell? p = some v) : w1.cell? p = some v := (hb.cell (World.block_lt_of_cell? w p h)).trans h
theorem cell_new {w : World} {p : Addr} {v : Value} (o : Obj) (h : w.cell? p = some v) : (w.alloc o).cell? p = some v := (World.cell?_alloc_lt _ _ _ (World.block_lt_of_cell? w p h)).trans h

theorem six_call {W w1 : World} {p1 p2 p3 p4 p5 p6 : Addr} {v1 v2 v3 v4 v5 v6 : Value} (hb : Below W.heap.size W w1) (h : W.cell? p1 = some v1 ∧ W.cell? p2 = some v2 ∧ W.cell? p3 = some v3 ∧ W.cell? p4 = some v4 ∧ W.cell? p5 = some v5 ∧ W.cell? p6 = some v6) : w1.cell? p1 = some v1 ∧ w1.cell? p2 = some v2 ∧ w1.cell? p3 = some v3 ∧ w1.cell? p4 = some v4 ∧ w1.cell? p5 = some v5 ∧ w1.cell? p6 = some v6 :=
  ⟨cell_keep hb h.1, cell_keep hb h.2.1, cell_keep hb h.2.2.1, cell_keep hb h.2.2.2.1, cell_keep hb h.2.2.2.2.1, cell_keep hb h.2.2.2.2.2⟩
theorem six_new {W : World} {p1 p2 p3 p4 p5 p6 : Addr} {v1 v2 v3 v4 v5 v6 : Value} (o : Obj) (h : W.cell? p1 = some v1 ∧ W.cell? p2 = some v2 ∧ W.cell? p3 = some v3 ∧ W.cell? p4 = some v4 ∧ W.cell? p5 = some v5 ∧ W.cell? p6 = some v6) : (W.alloc o).cell? p1 = some v1 ∧ (W.alloc o).cell? p2 = some v2 ∧ (W.alloc o).cell? p3 = some v3 ∧ (W.alloc o).cell? p4 = some v4 ∧ (W.alloc o).cell? p5 = some v5 ∧ (W.alloc o).cell? p6 = some v6 :=
  ⟨cell_new o h.1, cell_new o h.2.1, cell_new o h.2.2.1, cell_new o h.2.2.2.1, cell_new o h.2.2.2.2.1, cell_new o h.2.2.2.2.2⟩

theorem cell_swap {W : World} {p : Addr} {v : Value} (o o' : Obj) (hp : p.block < W.heap.size) (h : (W.alloc o).cell? p = some v) : (W.alloc o').cell? p = some v :=
  (World.cell?_alloc_lt _ _ _ hp).trans ((World.cell?_alloc_lt _ _ _ hp).symm.trans h)
theorem six_swap {W : World} {g1 g2 : Nat} {v1 v2 v3 v4 v5 v6 : Value} {o : Obj} (o' : Obj) (h1 : g1 < W.heap.size) (h2 : g2 < W.heap.size) (h : (W.alloc o).cell? ⟨g1, 0, none⟩ = some v1 ∧ (W.alloc o).cell? ⟨g1, 1, none⟩ = some v2 ∧ (W.alloc o).cell? ⟨g2, 0, none⟩ = some v3 ∧ (W.alloc o).cell? ⟨g2, 1, none⟩ = some v4 ∧ (W.alloc o).cell? ⟨g2, 2, none⟩ = some v5 ∧ (W.alloc o).cell? ⟨g2, 3, none⟩ = some v6) : (W.alloc o').cell? ⟨g1, 0, none⟩ = some v1 ∧ (W.alloc o').cell? ⟨g1, 1, none⟩ = some v2 ∧ (W.alloc o').cell? ⟨g2, 0, none⟩ = some v3 ∧ (W.alloc o').cell? ⟨g2, 1, none⟩ = some v4 ∧ (W.alloc o').cell? ⟨g2, 2, none⟩ = some v5 ∧ (W.alloc o').cell? ⟨g2, 3, none⟩ = some v6 :=
  ⟨cell_swap _ _ h1 h.1, cell_swap _ _ h1 h.2.1, cell_swap _ _ h2 h.2.2.1, cell_swap _ _ h2 h.2.2.2.1, cell_swap _ _ h2 h.2.2.2.2.1, cell_swap _ _ h2 h.2.2.2.2.2⟩

theorem sev_call {w0 W w1 : World} {g1 g2 : Nat} {v1 v2 v3 v4 v5 v6 : Value} (hb : Below W.heap.size W w1) (h : Below w0.heap.size w0 W ∧ W.cell? ⟨g1, 0, none⟩ = some v1 ∧ W.cell? ⟨g1, 1, none⟩ = some v2 ∧ W.cell? ⟨g2, 0, none⟩ = some v3 ∧ W.cell? ⟨g2, 1, none⟩ = some v4 ∧ W.cell? ⟨g2, 2, none⟩ = some v5 ∧ W.cell? ⟨g2, 3, none⟩ = some v6) : Below w0.heap.size w0 w1 ∧ w1.cell? ⟨g1, 0, none⟩ = some v1 ∧ w1.cell? ⟨g1, 1, none⟩ = some v2 ∧ w1.cell? ⟨g2, 0, none⟩ = some v3 ∧ w1.cell? ⟨g2, 1, none⟩ = some v4 ∧ w1.cell? ⟨g2, 2, none⟩ = some v5 ∧ w1.cell? ⟨g2, 3, none⟩ = some v6 :=
  ⟨below_step h.1 hb, six_call hb h.2⟩
theorem sev_new {w0 W : World} {g1 g2 : Nat} {v1 v2 v3 v4 v5 v6 : Value} (o : Obj) (h : Below w0.heap.size w0 W ∧ W.cell? ⟨g1, 0, none⟩ = some v1 ∧ W.cell? ⟨g1, 1, none⟩ = some v2 ∧ W.cell? ⟨g2, 0, none⟩ = some v3 ∧ W.cell? ⟨g2, 1, none⟩ = some v4 ∧ W.cell? ⟨g2, 2, none⟩ = some v5 ∧ W.cell? ⟨g2, 3, none⟩ = some v6) : Below w0.heap.size w0 (W.alloc o) ∧ (W.alloc o).cell? ⟨g1, 0, none⟩ = some v1 ∧ (W.alloc o).cell? ⟨g1, 1, none⟩ = some v2 ∧ (W.alloc o).cell? ⟨g2, 0, none⟩ = some v3 ∧ (W.alloc o).cell? ⟨g2, 1, none⟩ = some v4 ∧ (W.alloc o).cell? ⟨g2, 2, none⟩ = some v5 ∧ (W.alloc o).cell? ⟨g2, 3, none⟩ = some v6 :=
  ⟨below_alloc h.1 _, six_new o h.2⟩
theorem sev_drew {w0 W : World} {g1 g2 : Nat} {v1 v2 v3 v4 v5 v6 : Value} (h : Below w0.heap.size w0 W ∧ W.cell? ⟨g1, 0, none⟩ = some v1 ∧ W.cell? ⟨g1, 1, none⟩ = some v2 ∧ W.cell? ⟨g2, 0, none⟩ = some v3 ∧ W.cell? ⟨g2, 1, none⟩ = some v4 ∧ W.cell? ⟨g2, 2, none⟩ = some v5 ∧ W.cell? ⟨g2, 3, none⟩ = some v6) : Below w0.heap.size w0 W.drew ∧ W.drew.cell? ⟨g1, 0, none⟩ = some v1 ∧ W.drew.cell? ⟨g1, 1, none⟩ = some v2 ∧ W.drew.cell? ⟨g2, 0, none⟩ = some v3 ∧ W.drew.cell? ⟨g2, 1, none⟩ = some v4 ∧ W.drew.cell? ⟨g2, 2, none⟩ = some v5 ∧ W.drew.cell? ⟨g2, 3, none⟩ = some v6 :=
  ⟨below_drew1 h.1, h.2⟩
theorem set4 {W : World} {p : Addr} {v u1 u2 u3 u4 : Value} {g : Nat} (hp : p.block ≠ g) (h : W.cell? p = some v) : ((((W.setCell ⟨g, 0, none⟩ u1).setCell ⟨g, 1, none⟩ u2).setCell ⟨g, 2, none⟩ u3).setCell ⟨g, 3, none⟩ u4).cell? p = some v := by
  rw [World.cell?_setCell_other _ _ _ _ (fun e => hp (by rw [← e])), World.cell?_setCell_other _ _ _ _ (fun e => hp (by rw [← e])), World.cell?_setCell_other _ _ _ _ (fun e => hp (by rw [← e])), World.cell?_setCell_other _ _ _ _ (fun e => hp (by rw [← e]))]
  exact h
theorem sev_set {w0 W : World} {g1 g2 g : Nat} {v1 v2 v3 v4 v5 v6 u1 u2 u3 u4 : Value} (h1 : g1 ≠ g) (h2 : g2 ≠ g) (h0 : w0.heap.size ≤ g) (h : Below w0.heap.size w0 W ∧ W.cell? ⟨g1, 0, none⟩ = some v1 ∧ W.cell? ⟨g1, 1, none⟩ = some v2 ∧ W.cell? ⟨g2, 0, none⟩ = some v3 ∧ W.cell? ⟨g2, 1, none⟩ = some v4 ∧ W.cell? ⟨g2, 2, none⟩ = some v5 ∧ W.cell? ⟨g2, 3, none⟩ = some v6) : Below w0.heap.size w0 ((((W.setCell ⟨g, 0, none⟩ u1).setCell ⟨g, 1, none⟩ u2).setCell ⟨g, 2, none⟩ u3).setCell ⟨g, 3, none⟩ u4) ∧ ((((W.setCell ⟨g, 0, none⟩ u1).setCell ⟨g, 1, none⟩ u2).setCell ⟨g, 2, none⟩ u3).setCell ⟨g, 3, none⟩ u4).cell? ⟨g1, 0, none⟩ = some v1 ∧ ((((W.setCell ⟨g, 0, none⟩ u1).setCell ⟨g, 1, none⟩ u2).setCell ⟨g, 2, none⟩ u3).setCell ⟨g, 3, none⟩ u4).cell? ⟨g1, 1, none⟩ = some v2 ∧ ((((W.setCell ⟨g, 0, none⟩ u1).setCell ⟨g, 1, none⟩ u2).setCell ⟨g, 2, none⟩ u3).setCell ⟨g, 3, none⟩ u4).cell? ⟨g2, 0, none⟩ = some v3 ∧ ((((W.setCell ⟨g, 0, none⟩ u1).setCell ⟨g, 1, none⟩ u2).setCell ⟨g, 2, none⟩ u3).setCell ⟨g, 3, none⟩ u4).cell? ⟨g2, 1, none⟩ = some v4 ∧ ((((W.setCell ⟨g, 0, none⟩ u1).setCell ⟨g, 1, none⟩ u2).setCell ⟨g, 2, none⟩ u3).setCell ⟨g, 3, none⟩ u4).cell? ⟨g2, 2, none⟩ = some v5 ∧ ((((W.setCell ⟨g, 0, none⟩ u1).setCell ⟨g, 1, none⟩ u2).setCell ⟨g, 2, none⟩ u3).setCell ⟨g, 3, none⟩ u4).cell? ⟨g2, 3, none⟩ = some v6 :=
  ⟨(((h.1.setCell h0 _).setCell h0 _).setCell h0 _).setCell h0 _, set4 h1 h.2.1, set4 h1 h.2.2.1, set4 h2 h.2.2.2.1, set4 h2 h.2.2.2.2.1, set4 h2 h.2.2.2.2.2.1, set4 h2 h.2.2.2.2.2.2⟩
theorem sev_swap {w0 W : World} {g1 g2 : Nat} {v1 v2 v3 v4 v5 v6 : Value} {o : Obj} (o' : Obj) (h1 : g1 < W.heap.size) (h2 : g2 < W.heap.size) (h0 : Below w0.heap.size w0 W) (h : Below w0.heap.size w0 (W.alloc o) ∧ (W.alloc o).cell? ⟨g1, 0, none⟩ = some v1 ∧ (W.alloc o).cell? ⟨g1, 1, none⟩ = some v2 ∧ (W.alloc o).cell? ⟨g2, 0, none⟩ = some v3 ∧ (W.alloc o).cell? ⟨g2, 1, none⟩ = some v4 ∧ (W.alloc o).cell? ⟨g2, 2, none⟩ = some v5 ∧ (W.alloc o).cell? ⟨g2, 3, none⟩ = some v6) : Below w0.heap.size w0 (W.alloc o') ∧ (W.alloc o').cell? ⟨g1, 0, none⟩ = some v1 ∧ (W.alloc o').cell? ⟨g1, 1, none⟩ = some v2 ∧ (W.alloc o').cell? ⟨g2, 0, none⟩ = some v3 ∧ (W.alloc o').cell? ⟨g2, 1, none⟩ = some v4 ∧ (W.alloc o').cell? ⟨g2, 2, none⟩ = some v5 ∧ (W.alloc o').cell? ⟨g2, 3, none⟩ = some v6 :=
  ⟨below_alloc h0 _, six_swap o' h1 h2 h.2⟩

theorem sev_below {w0 W : World} {g1 g2 : Nat} {v1 v2 v3 v4 v5 v6 : Value} (h : Below w0.heap.size w0 W ∧ W.cell? ⟨g1, 0, none⟩ = some v1 ∧ W.cell? ⟨g1, 1, none⟩ = some v2 ∧ W.cell? ⟨g2, 0, none⟩ = some v3 ∧ W.cell? ⟨g2, 1, none⟩ = some v4 ∧ W.cell? ⟨g2, 2, none⟩ = some v5 ∧ W.cell? ⟨g2, 3, none⟩ = some v6) : Below w0.heap.size w0 W := h.1



set_option maxHeartbeats 8000000 in
set_option maxRecDepth 100000 in
theorem law_walk (a b c d x y : Int) (e f p q o : Bool)
    (hs : ∀ w, Calls Try.prog 18 #[.agg #[.int .i64 a, .int .i64 b], .agg #[.int .i64 c, .int .i64 d, .bool e, .bool f]] w fun en w' => en = .returned (.tuple #[.agg #[.int .i64 x, .int .i64 y, .bool p, .bool q], .bool o]) ∧ Below w.heap.size w w')
    (hi : ∀ w, Calls Try.prog 21 #[.agg #[.int .i64 a, .int .i64 b], .agg #[.int .i64 c, .int .i64 d, .bool e, .bool f]] w fun en w' => en = .returned (.tuple #[.agg #[.int .i64 x, .int .i64 y, .bool p, .bool q], .bool o]) ∧ Below w.heap.size w w') (w : World) :
    Calls Try.prog 4 #[.agg #[.int .i64 a, .int .i64 b], .agg #[.int .i64 c, .int .i64 d, .bool e, .bool f]] w fun en w' => en = .returned (.bool true) ∧ Below w.heap.size w w' := by
  have HS := Aside0.mk hs
  have HI := Aside0.mk hi
  clear hs hi
  go_enter Try.func4, Try.ntmps4
  go_wp2_with fail
  have K : Below w.heap.size w ((w.alloc (.cells #[.int .i64 a, .int .i64 b] 30)).alloc (.cells #[.int .i64 c, .int .i64 d, .bool e, .bool f] 32)) ∧ ((w.alloc (.cells #[.int .i64 a, .int .i64 b] 30)).alloc (.cells #[.int .i64 c, .int .i64 d, .bool e, .bool f] 32)).cell? ⟨w.heap.size, 0, none⟩ = some (.int .i64 a) ∧ ((w.alloc (.cells #[.int .i64 a, .int .i64 b] 30)).alloc (.cells #[.int .i64 c, .int .i64 d, .bool e, .bool f] 32)).cell? ⟨w.heap.size, 1, none⟩ = some (.int .i64 b) ∧ ((w.alloc (.cells #[.int .i64 a, .int .i64 b] 30)).alloc (.cells #[.int .i64 c, .int .i64 d, .bool e, .bool f] 32)).cell? ⟨w.heap.size + 1, 0, none⟩ = some (.int .i64 c) ∧ ((w.alloc (.cells #[.int .i64 a, .int .i64 b] 30)).alloc (.cells #[.int .i64 c, .int .i64 d, .bool e, .bool f] 32)).cell? ⟨w.heap.size + 1, 1, none⟩ = some (.int .i64 d) ∧ ((w.alloc (.cells #[.int .i64 a, .int .i64 b] 30)).alloc (.cells #[.int .i64 c, .int .i64 d, .bool e, .bool f] 32)).cell? ⟨w.heap.size + 1, 2, none⟩ = some (.bool e) ∧ ((w.alloc (.cells #[.int .i64 a, .int .i64 b] 30)).alloc (.cells #[.int .i64 c, .int .i64 d, .bool e, .bool f] 32)).cell? ⟨w.heap.size + 1, 3, none⟩ = some (.bool f) :=
    ⟨((Below.refl _ _).alloc (Nat.le_refl _) _).alloc (by simp) _, (blk_cell (blk_alloc (blk_first w _ _) _) 0).trans rfl, (blk_cell (blk_alloc (blk_first w _ _) _) 1).trans rfl, by simp, by simp, by simp, by simp⟩
  have hW : w.heap.size + 1 < ((w.alloc (.cells #[.int .i64 a, .int .i64 b] 30)).alloc (.cells #[.int .i64 c, .int .i64 d, .bool e, .bool f] 32)).heap.size := by simp
  generalize ((w.alloc (.cells #[.int .i64 a, .int .i64 b] 30)).alloc (.cells #[.int .i64 c, .int .i64 d, .bool e, .bool f] 32)) = W at K hW ⊢
  go_upto_region 1 with fail
  go_cut [5, 6] (fun s5 s6 wx => ∃ g : Nat, s5 = .pointer (some ⟨g, 0, none⟩) ∧ s6 = .bool o ∧ w.heap.size + 1 < wx.heap.size ∧ wx.heap[g]? = some (.cells #[.int .i64 x, .int .i64 y, .bool p, .bool q] 33 (0, 0)) ∧ Below w.heap.size w wx ∧ wx.cell? ⟨w.heap.size, 0, none⟩ = some (.int .i64 a) ∧ wx.cell? ⟨w.heap.size, 1, none⟩ = some (.int .i64 b) ∧ wx.cell? ⟨w.heap.size + 1, 0, none⟩ = some (.int .i64 c) ∧ wx.cell? ⟨w.heap.size + 1, 1, none⟩ = some (.int .i64 d) ∧ wx.cell? ⟨w.heap.size + 1, 2, none⟩ = some (.bool e) ∧ wx.cell? ⟨w.heap.size + 1, 3, none⟩ = some (.bool f))
  case first =>
    go_region_held3 (fun w' => Below w.heap.size w w' ∧ w'.cell? ⟨w.heap.size, 0, none⟩ = some (.int .i64 a) ∧ w'.cell? ⟨w.heap.size, 1, none⟩ = some (.int .i64 b) ∧ w'.cell? ⟨w.heap.size + 1, 0, none⟩ = some (.int .i64 c) ∧ w'.cell? ⟨w.heap.size + 1, 1, none⟩ = some (.int .i64 d) ∧ w'.cell? ⟨w.heap.size + 1, 2, none⟩ = some (.bool e) ∧ w'.cell? ⟨w.heap.size + 1, 3, none⟩ = some (.bool f))
      (first | (refine sev_call (by assumption) ?_; assumption) | (refine sev_drew ?_; assumption) | (refine sev_drew (sev_new _ ?_); assumption) | (refine sev_new _ ?_; assumption) | (refine sev_call (by assumption) (sev_new _ ?_); assumption) | (refine sev_swap (o := .cells #[.int .i64 0, .int .i64 0, .bool false, .bool false] 33) _ ?_ ?_ ?_ ?_ <;> (first | exact hbel.out | assumption | omega)) | (refine sev_set ?_ ?_ ?_ ?_ <;> (first | assumption | omega)) | go_keep)
      (first
        | (go_at_call 19; refine (laws_toTable.calls a b a b _ rfl).mono ?_; rintro en w1 ⟨rfl, hb1⟩; (have hz1 := hb1.size; (try simp at hz1); (try (have hbel : Aside0 (Below w.heap.size w w1) := by refine ⟨below_step (sev_below (g1 := w.heap.size) (g2 := w.heap.size + 1) (v1 := .int .i64 a) (v2 := .int .i64 b) (v3 := .int .i64 c) (v4 := .int .i64 d) (v5 := .bool e) (v6 := .bool f) ?_) hb1⟩; assumption)); (try (first | (have hZ := blk_below (blk_drew (blk_first _ #[.int .i64 0, .int .i64 0, .bool false, .bool false] 33)) hb1) | (have hZ := blk_below (blk_first _ #[.int .i64 0, .int .i64 0, .bool false, .bool false] 33) hb1) | (have hZ := blk_below hZ hb1))); (try have z0 := (blk_cell hZ 0).trans (rfl : _ = some (Value.int .i64 0))); (try have z1 := (blk_cell hZ 1).trans (rfl : _ = some (Value.int .i64 0))); (try have z2 := (blk_cell hZ 2).trans (rfl : _ = some (Value.bool false))); (try have z3 := (blk_cell hZ 3).trans (rfl : _ = some (Value.bool false))); (try have y0 := blk_frozen hZ 0); (try have y1 := blk_frozen hZ 1); (try have y2 := blk_frozen hZ 2); (try have y3 := blk_frozen hZ 3)))
        | (go_at_call 20; refine (laws_toBeam.calls c d e f c d e f _ rfl).mono ?_; rintro en w1 ⟨rfl, hb1⟩; (have hz1 := hb1.size; (try simp at hz1); (try (have hbel : Aside0 (Below w.heap.size w w1) := by refine ⟨below_step (sev_below (g1 := w.heap.size) (g2 := w.heap.size + 1) (v1 := .int .i64 a) (v2 := .int .i64 b) (v3 := .int .i64 c) (v4 := .int .i64 d) (v5 := .bool e) (v6 := .bool f) ?_) hb1⟩; assumption)); (try (first | (have hZ := blk_below (blk_drew (blk_first _ #[.int .i64 0, .int .i64 0, .bool false, .bool false] 33)) hb1) | (have hZ := blk_below (blk_first _ #[.int .i64 0, .int .i64 0, .bool false, .bool false] 33) hb1) | (have hZ := blk_below hZ hb1))); (try have z0 := (blk_cell hZ 0).trans (rfl : _ = some (Value.int .i64 0))); (try have z1 := (blk_cell hZ 1).trans (rfl : _ = some (Value.int .i64 0))); (try have z2 := (blk_cell hZ 2).trans (rfl : _ = some (Value.bool false))); (try have z3 := (blk_cell hZ 3).trans (rfl : _ = some (Value.bool false))); (try have y0 := blk_frozen hZ 0); (try have y1 := blk_frozen hZ 1); (try have y2 := blk_frozen hZ 2); (try have y3 := blk_frozen hZ 3)))
        | (go_at_call 18; refine (HS.out _).mono ?_; rintro en w1 ⟨rfl, hb1⟩; (have hz1 := hb1.size; (try simp at hz1); (try (have hbel : Aside0 (Below w.heap.size w w1) := by refine ⟨below_step (sev_below (g1 := w.heap.size) (g2 := w.heap.size + 1) (v1 := .int .i64 a) (v2 := .int .i64 b) (v3 := .int .i64 c) (v4 := .int .i64 d) (v5 := .bool e) (v6 := .bool f) ?_) hb1⟩; assumption)); (try (first | (have hZ := blk_below (blk_drew (blk_first _ #[.int .i64 0, .int .i64 0, .bool false, .bool false] 33)) hb1) | (have hZ := blk_below (blk_first _ #[.int .i64 0, .int .i64 0, .bool false, .bool false] 33) hb1) | (have hZ := blk_below hZ hb1))); (try have z0 := (blk_cell hZ 0).trans (rfl : _ = some (Value.int .i64 0))); (try have z1 := (blk_cell hZ 1).trans (rfl : _ = some (Value.int .i64 0))); (try have z2 := (blk_cell hZ 2).trans (rfl : _ = some (Value.bool false))); (try have z3 := (blk_cell hZ 3).trans (rfl : _ = some (Value.bool false))); (try have y0 := blk_frozen hZ 0); (try have y1 := blk_frozen hZ 1); (try have y2 := blk_frozen hZ 2); (try have y3 := blk_frozen hZ 3))))
    all_goals (go_wp2_with fail; go_meet)
    all_goals (refine ⟨_, rfl, rfl, ?_, ?_, ?_⟩)
    all_goals (first | (with_reducible assumption) | (with_reducible first | exact blk_first _ _ _ | exact blk_put (blk_put (blk_put (blk_put hZ 0 _ rfl) 1 _ rfl) 2 _ rfl) 3 _ rfl) | skip)
    all_goals (simp [World.setCell]; omega)
  case rest =>
    obtain ⟨g, rfl, rfl, hW2, hG, hK⟩ := hcut
    have G := Aside0.mk hG
    have L := Aside0.mk hK.1
    have K2 : Below wc.heap.size wc wc ∧ wc.cell? ⟨w.heap.size, 0, none⟩ = some (.int .i64 a) ∧ wc.cell? ⟨w.heap.size, 1, none⟩ = some (.int .i64 b) ∧ wc.cell? ⟨w.heap.size + 1, 0, none⟩ = some (.int .i64 c) ∧ wc.cell? ⟨w.heap.size + 1, 1, none⟩ = some (.int .i64 d) ∧ wc.cell? ⟨w.heap.size + 1, 2, none⟩ = some (.bool e) ∧ wc.cell? ⟨w.heap.size + 1, 3, none⟩ = some (.bool f) := ⟨Below.refl _ _, hK.2⟩
    clear hG hK hW K
    go_upto_region 2 with fail
    go_cut [7, 8] (fun s7 s8 wx => ∃ g2 : Nat, s7 = .pointer (some ⟨g2, 0, none⟩) ∧ s8 = .bool o ∧ wx.heap[g2]? = some (.cells #[.int .i64 x, .int .i64 y, .bool p, .bool q] 33 (0, 0)) ∧ Below wc.heap.size wc wx)
    case first =>
      go_region_held3 (fun w' => Below wc.heap.size wc w' ∧ w'.cell? ⟨w.heap.size, 0, none⟩ = some (.int .i64 a) ∧ w'.cell? ⟨w.heap.size, 1, none⟩ = some (.int .i64 b) ∧ w'.cell? ⟨w.heap.size + 1, 0, none⟩ = some (.int .i64 c) ∧ w'.cell? ⟨w.heap.size + 1, 1, none⟩ = some (.int .i64 d) ∧ w'.cell? ⟨w.heap.size + 1, 2, none⟩ = some (.bool e) ∧ w'.cell? ⟨w.heap.size + 1, 3, none⟩ = some (.bool f))
        (first | (refine sev_call (by assumption) ?_; assumption) | (refine sev_drew ?_; assumption) | (refine sev_drew (sev_new _ ?_); assumption) | (refine sev_new _ ?_; assumption) | (refine sev_call (by assumption) (sev_new _ ?_); assumption) | (refine sev_swap (o := .cells #[.int .i64 0, .int .i64 0, .bool false, .bool false] 33) _ ?_ ?_ ?_ ?_ <;> (first | exact hbel.out | assumption | omega)) | (refine sev_set ?_ ?_ ?_ ?_ <;> (first | assumption | omega)) | go_keep)
        (first
          | (go_at_call 19; refine (laws_toTable.calls a b a b _ rfl).mono ?_; rintro en w1 ⟨rfl, hb1⟩; (have hz1 := hb1.size; (try simp at hz1); (try (have hbel : Aside0 (Below wc.heap.size wc w1) := by refine ⟨below_step (sev_below (g1 := w.heap.size) (g2 := w.heap.size + 1) (v1 := .int .i64 a) (v2 := .int .i64 b) (v3 := .int .i64 c) (v4 := .int .i64 d) (v5 := .bool e) (v6 := .bool f) ?_) hb1⟩; assumption)); (try (first | (have hZ := blk_below (blk_drew (blk_first _ #[.int .i64 0, .int .i64 0, .bool false, .bool false] 33)) hb1) | (have hZ := blk_below (blk_first _ #[.int .i64 0, .int .i64 0, .bool false, .bool false] 33) hb1) | (have hZ := blk_below hZ hb1))); (try have z0 := (blk_cell hZ 0).trans (rfl : _ = some (Value.int .i64 0))); (try have z1 := (blk_cell hZ 1).trans (rfl : _ = some (Value.int .i64 0))); (try have z2 := (blk_cell hZ 2).trans (rfl : _ = some (Value.bool false))); (try have z3 := (blk_cell hZ 3).trans (rfl : _ = some (Value.bool false))); (try have y0 := blk_frozen hZ 0); (try have y1 := blk_frozen hZ 1); (try have y2 := blk_frozen hZ 2); (try have y3 := blk_frozen hZ 3)))
          | (go_at_call 20; refine (laws_toBeam.calls c d e f c d e f _ rfl).mono ?_; rintro en w1 ⟨rfl, hb1⟩; (have hz1 := hb1.size; (try simp at hz1); (try (have hbel : Aside0 (Below wc.heap.size wc w1) := by refine ⟨below_step (sev_below (g1 := w.heap.size) (g2 := w.heap.size + 1) (v1 := .int .i64 a) (v2 := .int .i64 b) (v3 := .int .i64 c) (v4 := .int .i64 d) (v5 := .bool e) (v6 := .bool f) ?_) hb1⟩; assumption)); (try (first | (have hZ := blk_below (blk_drew (blk_first _ #[.int .i64 0, .int .i64 0, .bool false, .bool false] 33)) hb1) | (have hZ := blk_below (blk_first _ #[.int .i64 0, .int .i64 0, .bool false, .bool false] 33) hb1) | (have hZ := blk_below hZ hb1))); (try have z0 := (blk_cell hZ 0).trans (rfl : _ = some (Value.int .i64 0))); (try have z1 := (blk_cell hZ 1).trans (rfl : _ = some (Value.int .i64 0))); (try have z2 := (blk_cell hZ 2).trans (rfl : _ = some (Value.bool false))); (try have z3 := (blk_cell hZ 3).trans (rfl : _ = some (Value.bool false))); (try have y0 := blk_frozen hZ 0); (try have y1 := blk_frozen hZ 1); (try have y2 := blk_frozen hZ 2); (try have y3 := blk_frozen hZ 3)))
          | (go_at_call 21; refine (HI.out _).mono ?_; rintro en w1 ⟨rfl, hb1⟩; (have hz1 := hb1.size; (try simp at hz1); (try (have hbel : Aside0 (Below wc.heap.size wc w1) := by refine ⟨below_step (sev_below (g1 := w.heap.size) (g2 := w.heap.size + 1) (v1 := .int .i64 a) (v2 := .int .i64 b) (v3 := .int .i64 c) (v4 := .int .i64 d) (v5 := .bool e) (v6 := .bool f) ?_) hb1⟩; assumption)); (try (first | (have hZ := blk_below (blk_drew (blk_first _ #[.int .i64 0, .int .i64 0, .bool false, .bool false] 33)) hb1) | (have hZ := blk_below (blk_first _ #[.int .i64 0, .int .i64 0, .bool false, .bool false] 33) hb1) | (have hZ := blk_below hZ hb1))); (try have z0 := (blk_cell hZ 0).trans (rfl : _ = some (Value.int .i64 0))); (try have z1 := (blk_cell hZ 1).trans (rfl : _ = some (Value.int .i64 0))); (try have z2 := (blk_cell hZ 2).trans (rfl : _ = some (Value.bool false))); (try have z3 := (blk_cell hZ 3).trans (rfl : _ = some (Value.bool false))); (try have y0 := blk_frozen hZ 0); (try have y1 := blk_frozen hZ 1); (try have y2 := blk_frozen hZ 2); (try have y3 := blk_frozen hZ 3))))
      all_goals (go_wp2_with fail; go_meet)
      all_goals (refine ⟨_, rfl, rfl, ?_, ?_⟩)
      all_goals (first | (with_reducible exact sev_below (by assumption)) | (with_reducible first | exact blk_first _ _ _ | exact blk_put (blk_put (blk_put (blk_put hZ 0 _ rfl) 1 _ rfl) 2 _ rfl) 3 _ rfl) | skip)
    case rest =>
      obtain ⟨g2, rfl, rfl, hG2, hB⟩ := hcut
      have G1 := Aside0.mk (blk_below G.out hB)
      have G2 := Aside0.mk hG2
      have L1 := Aside0.mk (below_step L.out hB)
      clear hG2 hB G L K2
      have q0 : wc.cell? ⟨g, 0, none⟩ = some (.int .i64 x) := (blk_cell G1.out 0).trans rfl
      have q1 : wc.cell? ⟨g, 1, none⟩ = some (.int .i64 y) := (blk_cell G1.out 1).trans rfl
      have q2 : wc.cell? ⟨g, 2, none⟩ = some (.bool p) := (blk_cell G1.out 2).trans rfl
      have q3 : wc.cell? ⟨g, 3, none⟩ = some (.bool q) := (blk_cell G1.out 3).trans rfl
      have a0 : wc.cell? ⟨g2, 0, none⟩ = some (.int .i64 x) := (blk_cell G2.out 0).trans rfl
      have a1 : wc.cell? ⟨g2, 1, none⟩ = some (.int .i64 y) := (blk_cell G2.out 1).trans rfl
      have a2 : wc.cell? ⟨g2, 2, none⟩ = some (.bool p) := (blk_cell G2.out 2).trans rfl
      have a3 : wc.cell? ⟨g2, 3, none⟩ = some (.bool q) := (blk_cell G2.out 3).trans rfl
      go_wp2_with fail
      refine (laws_eqBeam.calls x y p q x y p q true _ (by simp [laws_eqBeam.f])).mono ?_
      rintro en w3 ⟨rfl, hb⟩
      have L2 := Aside0.mk (below_step L1.out hb)
      clear hb G1 G2 L1 q0 q1 q2 q3 a0 a1 a2 a3
      go_wp2
      go_ret
      exact ⟨rfl, L2.out⟩
end Go.Proofs.Ytheeghlfckhdeaa.BackBeam
