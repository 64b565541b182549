/- The walk of the law FnExactCornerOf: where both sides come to the same string and the same answer, it returns true. No condition. -/
import Derived.Test.YtiembijmopimgaaCTo
import Derived.Deep.RegionHeld3
import Derived.Deep.DeepCutAuto
import Derived.Tactics2
import Derived.WalkSpells
import Derived.StillTactics
import Derived.Laws.Pointers
namespace Go.Proofs.Ytiembijmopimgaa.CLaw
open Go.RowKit Go.Proofs.Ytiembijmopimgaa.PFnExactCornerOf Go.Proofs.YtiembijmopimgaaW.PrintWords
set_option linter.unusedVariables false
set_option linter.unusedSimpArgs false

theorem blk_of {w : World} {g : Nat} {cs : Array Value} {t : TypeId} (h : w.heap[g]? = some (.cells cs t (0, 0))) (i : Nat) : w.cell? ⟨g, i, none⟩ = cs[i]? := by simp [World.cell?, h]
theorem blk_first' (w : World) (cs : Array Value) (t : TypeId) : (w.alloc (.cells cs t)).heap[w.heap.size]? = some (.cells cs t (0, 0)) := (MapKept.heap_alloc w _).1
theorem blk_next {w w1 : World} {g : Nat} {o : Obj} (h : w.heap[g]? = some o) (hb : Below w.heap.size w w1) : w1.heap[g]? = some o := (hb.block g (Array.getElem?_eq_some_iff.1 h).1).trans h

theorem bcell {W w1 : World} (hb : Below W.heap.size W w1) : (∀ b o, b < W.heap.size → w1.cell? ⟨b, o, none⟩ = W.cell? ⟨b, o, none⟩) ∧ (∀ b o, b < W.heap.size → w1.frozen? ⟨b, o, none⟩ = W.frozen? ⟨b, o, none⟩) :=
  ⟨fun b o h => hb.cell (p := ⟨b, o, none⟩) h, fun b o h => hb.frozen (p := ⟨b, o, none⟩) h⟩
theorem cell_keep {w w1 : World} {p : Addr} {v : Value} (hb : Below w.heap.size w w1) (h : w.cell? p = some v) : w1.cell? p = some v := (hb.cell (World.block_lt_of_cell? w p h)).trans h
theorem cell_new {w : World} {p : Addr} {v : Value} (o : Obj) (h : w.cell? p = some v) : (w.alloc o).cell? p = some v := (World.cell?_alloc_lt _ _ _ (World.block_lt_of_cell? w p h)).trans h

theorem six_call {W w1 : World} {p1 p2 p3 p4 p5 p6 : Addr} {v1 v2 v3 v4 v5 v6 : Value} (hb : Below W.heap.size W w1) (h : W.cell? p1 = some v1 ∧ W.cell? p2 = some v2 ∧ W.cell? p3 = some v3 ∧ W.cell? p4 = some v4 ∧ W.cell? p5 = some v5 ∧ W.cell? p6 = some v6) : w1.cell? p1 = some v1 ∧ w1.cell? p2 = some v2 ∧ w1.cell? p3 = some v3 ∧ w1.cell? p4 = some v4 ∧ w1.cell? p5 = some v5 ∧ w1.cell? p6 = some v6 :=
  ⟨cell_keep hb h.1, cell_keep hb h.2.1, cell_keep hb h.2.2.1, cell_keep hb h.2.2.2.1, cell_keep hb h.2.2.2.2.1, cell_keep hb h.2.2.2.2.2⟩
theorem six_new {W : World} {p1 p2 p3 p4 p5 p6 : Addr} {v1 v2 v3 v4 v5 v6 : Value} (o : Obj) (h : W.cell? p1 = some v1 ∧ W.cell? p2 = some v2 ∧ W.cell? p3 = some v3 ∧ W.cell? p4 = some v4 ∧ W.cell? p5 = some v5 ∧ W.cell? p6 = some v6) : (W.alloc o).cell? p1 = some v1 ∧ (W.alloc o).cell? p2 = some v2 ∧ (W.alloc o).cell? p3 = some v3 ∧ (W.alloc o).cell? p4 = some v4 ∧ (W.alloc o).cell? p5 = some v5 ∧ (W.alloc o).cell? p6 = some v6 :=
  ⟨cell_new o h.1, cell_new o h.2.1, cell_new o h.2.2.1, cell_new o h.2.2.2.1, cell_new o h.2.2.2.2.1, cell_new o h.2.2.2.2.2⟩

theorem sev_call {w0 W w1 : World} {p1 p2 p3 p4 p5 p6 : Addr} {v1 v2 v3 v4 v5 v6 : Value} (hb : Below W.heap.size W w1) (h : Below w0.heap.size w0 W ∧ W.cell? p1 = some v1 ∧ W.cell? p2 = some v2 ∧ W.cell? p3 = some v3 ∧ W.cell? p4 = some v4 ∧ W.cell? p5 = some v5 ∧ W.cell? p6 = some v6) : Below w0.heap.size w0 w1 ∧ w1.cell? p1 = some v1 ∧ w1.cell? p2 = some v2 ∧ w1.cell? p3 = some v3 ∧ w1.cell? p4 = some v4 ∧ w1.cell? p5 = some v5 ∧ w1.cell? p6 = some v6 :=
  ⟨below_step h.1 hb, six_call hb h.2⟩

theorem sev_drew {w0 W : World} {p1 p2 p3 p4 p5 p6 : Addr} {v1 v2 v3 v4 v5 v6 : Value} (h : Below w0.heap.size w0 W ∧ W.cell? p1 = some v1 ∧ W.cell? p2 = some v2 ∧ W.cell? p3 = some v3 ∧ W.cell? p4 = some v4 ∧ W.cell? p5 = some v5 ∧ W.cell? p6 = some v6) : Below w0.heap.size w0 W.drew ∧ W.drew.cell? p1 = some v1 ∧ W.drew.cell? p2 = some v2 ∧ W.drew.cell? p3 = some v3 ∧ W.drew.cell? p4 = some v4 ∧ W.drew.cell? p5 = some v5 ∧ W.drew.cell? p6 = some v6 :=
  ⟨below_drew1 h.1, h.2⟩

set_option maxHeartbeats 1000000 in
set_option maxRecDepth 100000 in
theorem law_walk (a b c d n m : Int) (e f o : Bool)
    (hs : ∀ w, Calls Try.prog 12 #[.agg #[.int .i64 a, .int .i64 b], .agg #[.int .i64 c, .int .i64 d, .bool e, .bool f]] w fun en w' => en = .returned (.tuple #[.int .i64 n, .int .i64 m, .bool o]) ∧ Below w.heap.size w w')
    (hi : ∀ w, Calls Try.prog 13 #[.agg #[.int .i64 a, .int .i64 b], .agg #[.int .i64 c, .int .i64 d, .bool e, .bool f]] w fun en w' => en = .returned (.tuple #[.int .i64 n, .int .i64 m, .bool o]) ∧ Below w.heap.size w w') (w : World) :
    Calls Try.prog 5 #[.agg #[.int .i64 a, .int .i64 b], .agg #[.int .i64 c, .int .i64 d, .bool e, .bool f]] w fun en w' => en = .returned (.bool true) ∧ Below w.heap.size w w' := by
  have HS := Aside0.mk hs
  have HI := Aside0.mk hi
  clear hs hi
  go_enter Try.func5, Try.ntmps5
  go_wp2_with fail
  have K : Below w.heap.size w ((w.alloc (.cells #[.int .i64 a, .int .i64 b] 23)).alloc (.cells #[.int .i64 c, .int .i64 d, .bool e, .bool f] 25)) ∧
      ((w.alloc (.cells #[.int .i64 a, .int .i64 b] 23)).alloc (.cells #[.int .i64 c, .int .i64 d, .bool e, .bool f] 25)).cell? ⟨w.heap.size, 0, none⟩ = some (.int .i64 a) ∧
      ((w.alloc (.cells #[.int .i64 a, .int .i64 b] 23)).alloc (.cells #[.int .i64 c, .int .i64 d, .bool e, .bool f] 25)).cell? ⟨w.heap.size, 1, none⟩ = some (.int .i64 b) ∧
      ((w.alloc (.cells #[.int .i64 a, .int .i64 b] 23)).alloc (.cells #[.int .i64 c, .int .i64 d, .bool e, .bool f] 25)).cell? ⟨w.heap.size + 1, 0, none⟩ = some (.int .i64 c) ∧
      ((w.alloc (.cells #[.int .i64 a, .int .i64 b] 23)).alloc (.cells #[.int .i64 c, .int .i64 d, .bool e, .bool f] 25)).cell? ⟨w.heap.size + 1, 1, none⟩ = some (.int .i64 d) ∧
      ((w.alloc (.cells #[.int .i64 a, .int .i64 b] 23)).alloc (.cells #[.int .i64 c, .int .i64 d, .bool e, .bool f] 25)).cell? ⟨w.heap.size + 1, 2, none⟩ = some (.bool e) ∧
      ((w.alloc (.cells #[.int .i64 a, .int .i64 b] 23)).alloc (.cells #[.int .i64 c, .int .i64 d, .bool e, .bool f] 25)).cell? ⟨w.heap.size + 1, 3, none⟩ = some (.bool f) :=
    ⟨((Below.refl _ _).alloc (Nat.le_refl _) _).alloc (by simp) _, (blk_cell (blk_alloc (blk_first' w _ _) _) 0).trans rfl, (blk_cell (blk_alloc (blk_first' w _ _) _) 1).trans rfl, by simp, by simp, by simp, by simp⟩
  generalize ((w.alloc (.cells #[.int .i64 a, .int .i64 b] 23)).alloc (.cells #[.int .i64 c, .int .i64 d, .bool e, .bool f] 25)) = W at K ⊢
  go_upto_region 1 with fail
  go_cut [5, 6, 7] (fun s7 s8 s9 wx => s7 = .int .i64 n ∧ s8 = .int .i64 m ∧ s9 = .bool o ∧ Below w.heap.size w wx ∧ wx.cell? ⟨w.heap.size, 0, none⟩ = some (.int .i64 a) ∧ wx.cell? ⟨w.heap.size, 1, none⟩ = some (.int .i64 b) ∧ wx.cell? ⟨w.heap.size + 1, 0, none⟩ = some (.int .i64 c) ∧ wx.cell? ⟨w.heap.size + 1, 1, none⟩ = some (.int .i64 d) ∧ wx.cell? ⟨w.heap.size + 1, 2, none⟩ = some (.bool e) ∧ wx.cell? ⟨w.heap.size + 1, 3, none⟩ = some (.bool f))
  case first =>
    go_region_held3 (fun w' => Below w.heap.size w w' ∧ w'.cell? ⟨w.heap.size, 0, none⟩ = some (.int .i64 a) ∧ w'.cell? ⟨w.heap.size, 1, none⟩ = some (.int .i64 b) ∧ w'.cell? ⟨w.heap.size + 1, 0, none⟩ = some (.int .i64 c) ∧ w'.cell? ⟨w.heap.size + 1, 1, none⟩ = some (.int .i64 d) ∧ w'.cell? ⟨w.heap.size + 1, 2, none⟩ = some (.bool e) ∧ w'.cell? ⟨w.heap.size + 1, 3, none⟩ = some (.bool f))
      (first | (refine sev_call (by assumption) ?_; assumption) | (refine sev_drew ?_; assumption) | go_keep)
      (first
        | (go_at_call 7; refine (laws_toTable.calls a b a b _ rfl).mono ?_; rintro en w1 ⟨rfl, hb1⟩)
        | (go_at_call 8; refine (laws_toBeam.calls c d e f c d e f _ rfl).mono ?_; rintro en w1 ⟨rfl, hb1⟩)
        | (go_at_call 12; refine (HS.out _).mono ?_; rintro en w1 ⟨rfl, hb1⟩))
    all_goals (go_wp2_with fail; go_meet)
    case rel => exact ⟨rfl, rfl, rfl, by assumption⟩
  case rest =>
    obtain ⟨rfl, rfl, rfl, K⟩ := hcut
    go_upto_region 2 with fail
    go_cut [8, 9, 10] (fun s7 s8 s9 wx => s7 = .int .i64 n ∧ s8 = .int .i64 m ∧ s9 = .bool o ∧ Below w.heap.size w wx ∧ wx.cell? ⟨w.heap.size, 0, none⟩ = some (.int .i64 a) ∧ wx.cell? ⟨w.heap.size, 1, none⟩ = some (.int .i64 b) ∧ wx.cell? ⟨w.heap.size + 1, 0, none⟩ = some (.int .i64 c) ∧ wx.cell? ⟨w.heap.size + 1, 1, none⟩ = some (.int .i64 d) ∧ wx.cell? ⟨w.heap.size + 1, 2, none⟩ = some (.bool e) ∧ wx.cell? ⟨w.heap.size + 1, 3, none⟩ = some (.bool f))
    case first =>
      go_region_held3 (fun w' => Below w.heap.size w w' ∧ w'.cell? ⟨w.heap.size, 0, none⟩ = some (.int .i64 a) ∧ w'.cell? ⟨w.heap.size, 1, none⟩ = some (.int .i64 b) ∧ w'.cell? ⟨w.heap.size + 1, 0, none⟩ = some (.int .i64 c) ∧ w'.cell? ⟨w.heap.size + 1, 1, none⟩ = some (.int .i64 d) ∧ w'.cell? ⟨w.heap.size + 1, 2, none⟩ = some (.bool e) ∧ w'.cell? ⟨w.heap.size + 1, 3, none⟩ = some (.bool f))
        (first | (refine sev_call (by assumption) ?_; assumption) | (refine sev_drew ?_; assumption) | go_keep)
        (first
          | (go_at_call 7; refine (laws_toTable.calls a b a b _ rfl).mono ?_; rintro en w1 ⟨rfl, hb1⟩)
          | (go_at_call 8; refine (laws_toBeam.calls c d e f c d e f _ rfl).mono ?_; rintro en w1 ⟨rfl, hb1⟩)
          | (go_at_call 13; refine (HI.out _).mono ?_; rintro en w1 ⟨rfl, hb1⟩))
      all_goals (go_wp2_with fail; go_meet)
      case rel => exact ⟨rfl, rfl, rfl, by assumption⟩
    case rest =>
      obtain ⟨rfl, rfl, rfl, K⟩ := hcut
      go_wp2
      go_ret
      exact ⟨rfl, K.1⟩
end Go.Proofs.Ytiembijmopimgaa.CLaw
