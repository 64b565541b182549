/- The walk of impl.next: it comes to what nextO tells. No condition. -/
import Derived.Test.YtiembijmopimgaaPFnExactCornerOfx5
import Derived.StillTailTactics
import Derived.Deep.LoopGhost
namespace Go.Proofs.Ytiembijmopimgaa.CNext
open Go.RowKit Go.Proofs.Ytiembijmopimgaa.PFnExactCornerOf Go.Proofs.YtiembijmopimgaaW.PrintWords
set_option linter.unusedVariables false
set_option linter.unusedSimpArgs false

theorem blk_first (w : World) (cs : Array Value) (t : TypeId) : (w.alloc (.cells cs t)).heap[w.heap.size]? = some (.cells cs t (0, 0)) := (MapKept.heap_alloc w _).1

def sg (b : Bool) : Int := if b = true then 1 else -1
/-- What next comes to. -/
def nextO (t0 t1 x y : Int) (r u : Bool) : Option (Int × Int × Bool × Bool × ByteArray) :=
  (impl_isCorner.f t0 t1 (wrap64 (x + sg r)) (wrap64 (y + sg u)) r u).bind fun c =>
    if c = true then some (wrap64 (x + sg r), wrap64 (y + sg u), r, u, ⟨#[]⟩)
    else if wrap64 (x + sg r) = t0 then (impl_inward.f t0 t1 (wrap64 (x + sg r)) (wrap64 (y + sg u)) r u).bind fun b => some (b.1, b.2.1, b.2.2.1, b.2.2.2, ⟨#[114]⟩)
    else if wrap64 (x + sg r) = 0 then (impl_inward.f t0 t1 (wrap64 (x + sg r)) (wrap64 (y + sg u)) r u).bind fun b => some (b.1, b.2.1, b.2.2.1, b.2.2.2, ⟨#[108]⟩)
    else if wrap64 (y + sg u) = t1 then (impl_inward.f t0 t1 (wrap64 (x + sg r)) (wrap64 (y + sg u)) r u).bind fun b => some (b.1, b.2.1, b.2.2.1, b.2.2.2, ⟨#[117]⟩)
    else if wrap64 (y + sg u) = 0 then (impl_inward.f t0 t1 (wrap64 (x + sg r)) (wrap64 (y + sg u)) r u).bind fun b => some (b.1, b.2.1, b.2.2.1, b.2.2.2, ⟨#[100]⟩)
    else some (wrap64 (x + sg r), wrap64 (y + sg u), r, u, ⟨#[]⟩)

theorem sign_any (b : Bool) (w : World) : Calls Try.prog 36 #[.bool b] w fun e w' => e = .returned (.int .i64 (sg b)) ∧ w' = w := by
  cases b
  · go_enter Try.func36, Try.ntmps36
    go_wp2
    go_ret
    exact ⟨rfl, rfl⟩
  · go_enter Try.func36, Try.ntmps36
    go_wp2
    go_ret
    exact ⟨rfl, rfl⟩


set_option maxHeartbeats 2000000 in
set_option maxRecDepth 100000 in
theorem next_walk (t0 t1 x y : Int) (r u : Bool) (x' y' : Int) (r' u' : Bool) (s : ByteArray) (w : World) (h : nextO t0 t1 x y r u = some (x', y', r', u', s)) :
    Calls Try.prog 30 #[.agg #[.int .i64 t0, .int .i64 t1], .agg #[.int .i64 x, .int .i64 y, .bool r, .bool u]] w fun e w' => e = .returned (.tuple #[.agg #[.int .i64 x', .int .i64 y', .bool r', .bool u'], .string s]) ∧ Below w.heap.size w w' := by
  have HC := Aside0.mk h
  clear h
  go_enter Try.func30, Try.ntmps30
  go_wp2_with fail
  have B0 : Aside0 ((((w.alloc (.cells #[.int .i64 t0, .int .i64 t1] 28)).alloc (.cells #[.int .i64 x, .int .i64 y, .bool r, .bool u] 30)).alloc (.cells #[.int .i64 0, .int .i64 0, .bool false, .bool false] 30)).heap[w.heap.size + 1]? = some (.cells #[.int .i64 x, .int .i64 y, .bool r, .bool u] 30 (0, 0))) := ⟨by
    have := blk_alloc (blk_first (w.alloc (.cells #[.int .i64 t0, .int .i64 t1] 28)) #[.int .i64 x, .int .i64 y, .bool r, .bool u] 30) (.cells #[.int .i64 0, .int .i64 0, .bool false, .bool false] 30)
    simpa using this⟩
  have T0 : Aside0 ((((w.alloc (.cells #[.int .i64 t0, .int .i64 t1] 28)).alloc (.cells #[.int .i64 x, .int .i64 y, .bool r, .bool u] 30)).alloc (.cells #[.int .i64 0, .int .i64 0, .bool false, .bool false] 30)).heap[w.heap.size]? = some (.cells #[.int .i64 t0, .int .i64 t1] 28 (0, 0))) := ⟨blk_alloc (blk_alloc (blk_first w #[.int .i64 t0, .int .i64 t1] 28) _) _⟩
  have Z0 : Aside0 ((((w.alloc (.cells #[.int .i64 t0, .int .i64 t1] 28)).alloc (.cells #[.int .i64 x, .int .i64 y, .bool r, .bool u] 30)).alloc (.cells #[.int .i64 0, .int .i64 0, .bool false, .bool false] 30)).heap[w.heap.size + 1 + 1]? = some (.cells #[.int .i64 0, .int .i64 0, .bool false, .bool false] 30 (0, 0))) := ⟨by
    have := blk_first ((w.alloc (.cells #[.int .i64 t0, .int .i64 t1] 28)).alloc (.cells #[.int .i64 x, .int .i64 y, .bool r, .bool u] 30)) #[.int .i64 0, .int .i64 0, .bool false, .bool false] 30
    simpa using this⟩
  have L0 : Aside0 (Below w.heap.size w (((w.alloc (.cells #[.int .i64 t0, .int .i64 t1] 28)).alloc (.cells #[.int .i64 x, .int .i64 y, .bool r, .bool u] 30)).alloc (.cells #[.int .i64 0, .int .i64 0, .bool false, .bool false] 30))) := ⟨below_alloc (below_alloc (below_alloc (Below.refl _ _) _) _) _⟩
  generalize (((w.alloc (.cells #[.int .i64 t0, .int .i64 t1] 28)).alloc (.cells #[.int .i64 x, .int .i64 y, .bool r, .bool u] 30)).alloc (.cells #[.int .i64 0, .int .i64 0, .bool false, .bool false] 30)) = W at B0 T0 Z0 L0 ⊢
  refine wp_region_still_tail 7 (by kernel_rfl) (by kernel_rfl) ?_
  obtain ⟨W1, hw⟩ : ∃ w2, w2 = ({ heap := (W).heap, tape := (W).tape, drawn := (W).drawn + 1, os := (W).os, output := (W).output } : World) := ⟨_, rfl⟩
  rw [← hw]
  have B1 := Aside0.mk (show W1.heap[w.heap.size + 1]? = some (.cells #[.int .i64 x, .int .i64 y, .bool r, .bool u] 30 (0, 0)) by rw [hw]; exact B0.out)
  have T1 := Aside0.mk (show W1.heap[w.heap.size]? = some (.cells #[.int .i64 t0, .int .i64 t1] 28 (0, 0)) by rw [hw]; exact T0.out)
  have Z1 := Aside0.mk (show W1.heap[w.heap.size + 1 + 1]? = some (.cells #[.int .i64 0, .int .i64 0, .bool false, .bool false] 30 (0, 0)) by rw [hw]; exact Z0.out)
  have L1 := Aside0.mk (show Below w.heap.size w W1 by rw [hw]; exact below_drew1 L0.out)
  clear hw B0 T0 Z0 L0
  have c0 : W1.cell? ⟨w.heap.size + 1, 0, none⟩ = some (.int .i64 x) := (blk_cell B1.out 0).trans rfl
  have c1 : W1.cell? ⟨w.heap.size + 1, 1, none⟩ = some (.int .i64 y) := (blk_cell B1.out 1).trans rfl
  have c2 : W1.cell? ⟨w.heap.size + 1, 2, none⟩ = some (.bool r) := (blk_cell B1.out 2).trans rfl
  have c3 : W1.cell? ⟨w.heap.size + 1, 3, none⟩ = some (.bool u) := (blk_cell B1.out 3).trans rfl
  have e0 : W1.frozen? ⟨w.heap.size + 1, 0, none⟩ = false := blk_frozen B1.out 0
  have e1 : W1.frozen? ⟨w.heap.size + 1, 1, none⟩ = false := blk_frozen B1.out 1
  have e2 : W1.frozen? ⟨w.heap.size + 1, 2, none⟩ = false := blk_frozen B1.out 2
  have e3 : W1.frozen? ⟨w.heap.size + 1, 3, none⟩ = false := blk_frozen B1.out 3
  simp only [List.take_succ_cons, List.take_zero, List.drop_succ_cons, List.drop_zero]
  still_step
  still_step
  still_step
  still_step
  still_call (sign_any _ _)
  still_step
  still_step
  refine wpStill_nil ?_
  go_wp2_with fail
  clear c0 c1 c2 c3 e0 e1 e2 e3
  have B2 : Aside0 ((W1.setCell ⟨w.heap.size + 1, 0, none⟩ (.int .i64 (wrap64 (x + sg r)))).heap[w.heap.size + 1]? = some (.cells #[.int .i64 (wrap64 (x + sg r)), .int .i64 y, .bool r, .bool u] 30 (0, 0))) := ⟨blk_put B1.out 0 _ rfl⟩
  have T2 : Aside0 ((W1.setCell ⟨w.heap.size + 1, 0, none⟩ (.int .i64 (wrap64 (x + sg r)))).heap[w.heap.size]? = some (.cells #[.int .i64 t0, .int .i64 t1] 28 (0, 0))) := ⟨by rw [Below.heap_setCell _ _ _ _ (by simp)]; exact T1.out⟩
  have Z2 : Aside0 ((W1.setCell ⟨w.heap.size + 1, 0, none⟩ (.int .i64 (wrap64 (x + sg r)))).heap[w.heap.size + 1 + 1]? = some (.cells #[.int .i64 0, .int .i64 0, .bool false, .bool false] 30 (0, 0))) := ⟨by rw [Below.heap_setCell _ _ _ _ (by simp)]; exact Z1.out⟩
  have L2 : Aside0 (Below w.heap.size w (W1.setCell ⟨w.heap.size + 1, 0, none⟩ (.int .i64 (wrap64 (x + sg r))))) := ⟨L1.out.setCell (by simp) _⟩
  clear B1 T1 Z1 L1
  generalize W1.setCell ⟨w.heap.size + 1, 0, none⟩ (.int .i64 (wrap64 (x + sg r))) = W2 at B2 T2 Z2 L2 ⊢
  refine wp_region_still_tail 7 (by kernel_rfl) (by kernel_rfl) ?_
  obtain ⟨W3, hw⟩ : ∃ w2, w2 = ({ heap := (W2).heap, tape := (W2).tape, drawn := (W2).drawn + 1, os := (W2).os, output := (W2).output } : World) := ⟨_, rfl⟩
  rw [← hw]
  have B3 := Aside0.mk (show W3.heap[w.heap.size + 1]? = some (.cells #[.int .i64 (wrap64 (x + sg r)), .int .i64 y, .bool r, .bool u] 30 (0, 0)) by rw [hw]; exact B2.out)
  have T3 := Aside0.mk (show W3.heap[w.heap.size]? = some (.cells #[.int .i64 t0, .int .i64 t1] 28 (0, 0)) by rw [hw]; exact T2.out)
  have Z3 := Aside0.mk (show W3.heap[w.heap.size + 1 + 1]? = some (.cells #[.int .i64 0, .int .i64 0, .bool false, .bool false] 30 (0, 0)) by rw [hw]; exact Z2.out)
  have L3 := Aside0.mk (show Below w.heap.size w W3 by rw [hw]; exact below_drew1 L2.out)
  clear hw B2 T2 Z2 L2
  have c0 : W3.cell? ⟨w.heap.size + 1, 0, none⟩ = some (.int .i64 (wrap64 (x + sg r))) := (blk_cell B3.out 0).trans rfl
  have c1 : W3.cell? ⟨w.heap.size + 1, 1, none⟩ = some (.int .i64 y) := (blk_cell B3.out 1).trans rfl
  have c2 : W3.cell? ⟨w.heap.size + 1, 2, none⟩ = some (.bool r) := (blk_cell B3.out 2).trans rfl
  have c3 : W3.cell? ⟨w.heap.size + 1, 3, none⟩ = some (.bool u) := (blk_cell B3.out 3).trans rfl
  have e0 : W3.frozen? ⟨w.heap.size + 1, 0, none⟩ = false := blk_frozen B3.out 0
  have e1 : W3.frozen? ⟨w.heap.size + 1, 1, none⟩ = false := blk_frozen B3.out 1
  have e2 : W3.frozen? ⟨w.heap.size + 1, 2, none⟩ = false := blk_frozen B3.out 2
  have e3 : W3.frozen? ⟨w.heap.size + 1, 3, none⟩ = false := blk_frozen B3.out 3
  simp only [List.take_succ_cons, List.take_zero, List.drop_succ_cons, List.drop_zero]
  still_step
  still_step
  still_step
  still_step
  still_call (sign_any _ _)
  still_step
  still_step
  refine wpStill_nil ?_
  have t0c : W3.cell? ⟨w.heap.size, 0, none⟩ = some (.int .i64 t0) := (blk_cell T3.out 0).trans rfl
  have t1c : W3.cell? ⟨w.heap.size, 1, none⟩ = some (.int .i64 t1) := (blk_cell T3.out 1).trans rfl
  go_wp2_with fail
  have hn := HC.out
  clear HC
  unfold nextO at hn
  obtain ⟨c, hc, hn2⟩ := Option.bind_eq_some_iff.mp hn
  clear hn
  have HCC := Aside0.mk hc
  have HN2 := Aside0.mk hn2
  clear hc hn2
  have B4 : Aside0 ((W3.setCell ⟨w.heap.size + 1, 1, none⟩ (.int .i64 (wrap64 (y + sg u)))).heap[w.heap.size + 1]? = some (.cells #[.int .i64 (wrap64 (x + sg r)), .int .i64 (wrap64 (y + sg u)), .bool r, .bool u] 30 (0, 0))) := ⟨blk_put B3.out 1 _ rfl⟩
  have T4 : Aside0 ((W3.setCell ⟨w.heap.size + 1, 1, none⟩ (.int .i64 (wrap64 (y + sg u)))).heap[w.heap.size]? = some (.cells #[.int .i64 t0, .int .i64 t1] 28 (0, 0))) := ⟨by rw [Below.heap_setCell _ _ _ _ (by simp)]; exact T3.out⟩
  have Z4 : Aside0 ((W3.setCell ⟨w.heap.size + 1, 1, none⟩ (.int .i64 (wrap64 (y + sg u)))).heap[w.heap.size + 1 + 1]? = some (.cells #[.int .i64 0, .int .i64 0, .bool false, .bool false] 30 (0, 0))) := ⟨by rw [Below.heap_setCell _ _ _ _ (by simp)]; exact Z3.out⟩
  have L4 : Aside0 (Below w.heap.size w (W3.setCell ⟨w.heap.size + 1, 1, none⟩ (.int .i64 (wrap64 (y + sg u))))) := ⟨L3.out.setCell (by simp) _⟩
  clear B3 T3 Z3 L3 c0 c1 c2 c3 e0 e1 e2 e3 t0c t1c
  refine (impl_isCorner.calls t0 t1 (wrap64 (x + sg r)) (wrap64 (y + sg u)) r u c _ HCC.out).mono ?_
  rintro e w5 ⟨rfl, hb⟩
  have B5 := Aside0.mk (blk_below B4.out hb)
  have T5 := Aside0.mk (blk_below T4.out hb)
  have Z5 := Aside0.mk (blk_below Z4.out hb)
  have L5 := Aside0.mk (below_step L4.out hb)
  clear hb B4 T4 Z4 L4
  generalize wrap64 (x + sg r) = x2 at HN2 B5 HCC
  generalize wrap64 (y + sg u) = y2 at HN2 B5 HCC
  have a0 : w5.cell? ⟨w.heap.size, 0, none⟩ = some (.int .i64 t0) := (blk_cell T5.out 0).trans rfl
  have a1 : w5.cell? ⟨w.heap.size, 1, none⟩ = some (.int .i64 t1) := (blk_cell T5.out 1).trans rfl
  have q0 : w5.cell? ⟨w.heap.size + 1, 0, none⟩ = some (.int .i64 x2) := (blk_cell B5.out 0).trans rfl
  have q1 : w5.cell? ⟨w.heap.size + 1, 1, none⟩ = some (.int .i64 y2) := (blk_cell B5.out 1).trans rfl
  have q2 : w5.cell? ⟨w.heap.size + 1, 2, none⟩ = some (.bool r) := (blk_cell B5.out 2).trans rfl
  have q3 : w5.cell? ⟨w.heap.size + 1, 3, none⟩ = some (.bool u) := (blk_cell B5.out 3).trans rfl
  have z0 : w5.cell? ⟨w.heap.size + 1 + 1, 0, none⟩ = some (.int .i64 0) := (blk_cell Z5.out 0).trans rfl
  have z1 : w5.cell? ⟨w.heap.size + 1 + 1, 1, none⟩ = some (.int .i64 0) := (blk_cell Z5.out 1).trans rfl
  have z2 : w5.cell? ⟨w.heap.size + 1 + 1, 2, none⟩ = some (.bool false) := (blk_cell Z5.out 2).trans rfl
  have z3 : w5.cell? ⟨w.heap.size + 1 + 1, 3, none⟩ = some (.bool false) := (blk_cell Z5.out 3).trans rfl
  have f0 : w5.frozen? ⟨w.heap.size + 1 + 1, 0, none⟩ = false := blk_frozen Z5.out 0
  have f1 : w5.frozen? ⟨w.heap.size + 1 + 1, 1, none⟩ = false := blk_frozen Z5.out 1
  have f2 : w5.frozen? ⟨w.heap.size + 1 + 1, 2, none⟩ = false := blk_frozen Z5.out 2
  have f3 : w5.frozen? ⟨w.heap.size + 1 + 1, 3, none⟩ = false := blk_frozen Z5.out 3
  cases c
  · have hn := HN2.out
    clear HN2
    rw [if_neg (by simp)] at hn
    by_cases d1 : x2 = t0
    · rw [if_pos d1] at hn
      have g1 : (x2 == t0) = true := by simpa using d1
      clear d1
      obtain ⟨⟨b1, b2, b3, b4⟩, hx, hy⟩ := Option.bind_eq_some_iff.mp hn
      simp only [Option.some.injEq, Prod.mk.injEq] at hy
      obtain ⟨rfl, rfl, rfl, rfl, rfl⟩ := hy
      have HX := Aside0.mk hx
      clear hn hx
      go_wp2_with fail
      refine (impl_inward.calls t0 t1 x2 y2 r u b1 b2 b3 b4 _ HX.out).mono ?_
      rintro e w6 ⟨rfl, hb⟩
      have Z8 := Aside0.mk (blk_below Z5.out hb)
      have L8 := Aside0.mk (below_step L5.out hb)
      clear hb B5 T5 Z5 L5 a0 a1 q0 q1 q2 q3 z0 z1 z2 z3 f0 f1 f2 f3
      have z0 : w6.cell? ⟨w.heap.size + 1 + 1, 0, none⟩ = some (.int .i64 0) := (blk_cell Z8.out 0).trans rfl
      have z1 : w6.cell? ⟨w.heap.size + 1 + 1, 1, none⟩ = some (.int .i64 0) := (blk_cell Z8.out 1).trans rfl
      have z2 : w6.cell? ⟨w.heap.size + 1 + 1, 2, none⟩ = some (.bool false) := (blk_cell Z8.out 2).trans rfl
      have z3 : w6.cell? ⟨w.heap.size + 1 + 1, 3, none⟩ = some (.bool false) := (blk_cell Z8.out 3).trans rfl
      have f0 : w6.frozen? ⟨w.heap.size + 1 + 1, 0, none⟩ = false := blk_frozen Z8.out 0
      have f1 : w6.frozen? ⟨w.heap.size + 1 + 1, 1, none⟩ = false := blk_frozen Z8.out 1
      have f2 : w6.frozen? ⟨w.heap.size + 1 + 1, 2, none⟩ = false := blk_frozen Z8.out 2
      have f3 : w6.frozen? ⟨w.heap.size + 1 + 1, 3, none⟩ = false := blk_frozen Z8.out 3
      go_wp2
      (have Z6 := blk_put (blk_put (blk_put (blk_put (Z8).out 0 (.int .i64 b1) rfl) 1 (.int .i64 b2) rfl) 2 (.bool b3) rfl) 3 (.bool b4) rfl; have L6 : Below w.heap.size w ((((w6).setCell ⟨w.heap.size + 1 + 1, 0, none⟩ (.int .i64 b1)).setCell ⟨w.heap.size + 1 + 1, 1, none⟩ (.int .i64 b2)).setCell ⟨w.heap.size + 1 + 1, 2, none⟩ (.bool b3) |>.setCell ⟨w.heap.size + 1 + 1, 3, none⟩ (.bool b4)) := ((((L8).out.setCell (by simp; omega) _).setCell (by simp; omega) _).setCell (by simp; omega) _).setCell (by simp; omega) _; generalize ((((w6).setCell ⟨w.heap.size + 1 + 1, 0, none⟩ (.int .i64 b1)).setCell ⟨w.heap.size + 1 + 1, 1, none⟩ (.int .i64 b2)).setCell ⟨w.heap.size + 1 + 1, 2, none⟩ (.bool b3) |>.setCell ⟨w.heap.size + 1 + 1, 3, none⟩ (.bool b4)) = w7 at Z6 L6 ⊢; have k0 : w7.cell? ⟨w.heap.size + 1 + 1, 0, none⟩ = some (.int .i64 b1) := (blk_cell Z6 0).trans rfl; have k1 : w7.cell? ⟨w.heap.size + 1 + 1, 1, none⟩ = some (.int .i64 b2) := (blk_cell Z6 1).trans rfl; have k2 : w7.cell? ⟨w.heap.size + 1 + 1, 2, none⟩ = some (.bool b3) := (blk_cell Z6 2).trans rfl; have k3 : w7.cell? ⟨w.heap.size + 1 + 1, 3, none⟩ = some (.bool b4) := (blk_cell Z6 3).trans rfl; refine bodyPost_ret (v := .tuple #[.agg #[.int .i64 b1, .int .i64 b2, .bool b3, .bool b4], .string ⟨#[114]⟩]) (by simp [results, Try.results30, go_sem, k0, k1, k2, k3]) rfl ⟨rfl, L6⟩)
    rw [if_neg d1] at hn
    have g1 : (x2 == t0) = false := by simpa using d1
    clear d1
    by_cases d2 : x2 = 0
    · rw [if_pos d2] at hn
      have g2 : (x2 == 0) = true := by simpa using d2
      clear d2
      obtain ⟨⟨b1, b2, b3, b4⟩, hx, hy⟩ := Option.bind_eq_some_iff.mp hn
      simp only [Option.some.injEq, Prod.mk.injEq] at hy
      obtain ⟨rfl, rfl, rfl, rfl, rfl⟩ := hy
      have HX := Aside0.mk hx
      clear hn hx
      go_wp2_with fail
      refine (impl_inward.calls t0 t1 x2 y2 r u b1 b2 b3 b4 _ HX.out).mono ?_
      rintro e w6 ⟨rfl, hb⟩
      have Z8 := Aside0.mk (blk_below Z5.out hb)
      have L8 := Aside0.mk (below_step L5.out hb)
      clear hb B5 T5 Z5 L5 a0 a1 q0 q1 q2 q3 z0 z1 z2 z3 f0 f1 f2 f3
      have z0 : w6.cell? ⟨w.heap.size + 1 + 1, 0, none⟩ = some (.int .i64 0) := (blk_cell Z8.out 0).trans rfl
      have z1 : w6.cell? ⟨w.heap.size + 1 + 1, 1, none⟩ = some (.int .i64 0) := (blk_cell Z8.out 1).trans rfl
      have z2 : w6.cell? ⟨w.heap.size + 1 + 1, 2, none⟩ = some (.bool false) := (blk_cell Z8.out 2).trans rfl
      have z3 : w6.cell? ⟨w.heap.size + 1 + 1, 3, none⟩ = some (.bool false) := (blk_cell Z8.out 3).trans rfl
      have f0 : w6.frozen? ⟨w.heap.size + 1 + 1, 0, none⟩ = false := blk_frozen Z8.out 0
      have f1 : w6.frozen? ⟨w.heap.size + 1 + 1, 1, none⟩ = false := blk_frozen Z8.out 1
      have f2 : w6.frozen? ⟨w.heap.size + 1 + 1, 2, none⟩ = false := blk_frozen Z8.out 2
      have f3 : w6.frozen? ⟨w.heap.size + 1 + 1, 3, none⟩ = false := blk_frozen Z8.out 3
      go_wp2
      (have Z6 := blk_put (blk_put (blk_put (blk_put (Z8).out 0 (.int .i64 b1) rfl) 1 (.int .i64 b2) rfl) 2 (.bool b3) rfl) 3 (.bool b4) rfl; have L6 : Below w.heap.size w ((((w6).setCell ⟨w.heap.size + 1 + 1, 0, none⟩ (.int .i64 b1)).setCell ⟨w.heap.size + 1 + 1, 1, none⟩ (.int .i64 b2)).setCell ⟨w.heap.size + 1 + 1, 2, none⟩ (.bool b3) |>.setCell ⟨w.heap.size + 1 + 1, 3, none⟩ (.bool b4)) := ((((L8).out.setCell (by simp; omega) _).setCell (by simp; omega) _).setCell (by simp; omega) _).setCell (by simp; omega) _; generalize ((((w6).setCell ⟨w.heap.size + 1 + 1, 0, none⟩ (.int .i64 b1)).setCell ⟨w.heap.size + 1 + 1, 1, none⟩ (.int .i64 b2)).setCell ⟨w.heap.size + 1 + 1, 2, none⟩ (.bool b3) |>.setCell ⟨w.heap.size + 1 + 1, 3, none⟩ (.bool b4)) = w7 at Z6 L6 ⊢; have k0 : w7.cell? ⟨w.heap.size + 1 + 1, 0, none⟩ = some (.int .i64 b1) := (blk_cell Z6 0).trans rfl; have k1 : w7.cell? ⟨w.heap.size + 1 + 1, 1, none⟩ = some (.int .i64 b2) := (blk_cell Z6 1).trans rfl; have k2 : w7.cell? ⟨w.heap.size + 1 + 1, 2, none⟩ = some (.bool b3) := (blk_cell Z6 2).trans rfl; have k3 : w7.cell? ⟨w.heap.size + 1 + 1, 3, none⟩ = some (.bool b4) := (blk_cell Z6 3).trans rfl; refine bodyPost_ret (v := .tuple #[.agg #[.int .i64 b1, .int .i64 b2, .bool b3, .bool b4], .string ⟨#[108]⟩]) (by simp [results, Try.results30, go_sem, k0, k1, k2, k3]) rfl ⟨rfl, L6⟩)
    rw [if_neg d2] at hn
    have g2 : (x2 == 0) = false := by simpa using d2
    clear d2
    by_cases d3 : y2 = t1
    · rw [if_pos d3] at hn
      have g3 : (y2 == t1) = true := by simpa using d3
      clear d3
      obtain ⟨⟨b1, b2, b3, b4⟩, hx, hy⟩ := Option.bind_eq_some_iff.mp hn
      simp only [Option.some.injEq, Prod.mk.injEq] at hy
      obtain ⟨rfl, rfl, rfl, rfl, rfl⟩ := hy
      have HX := Aside0.mk hx
      clear hn hx
      go_wp2_with fail
      refine (impl_inward.calls t0 t1 x2 y2 r u b1 b2 b3 b4 _ HX.out).mono ?_
      rintro e w6 ⟨rfl, hb⟩
      have Z8 := Aside0.mk (blk_below Z5.out hb)
      have L8 := Aside0.mk (below_step L5.out hb)
      clear hb B5 T5 Z5 L5 a0 a1 q0 q1 q2 q3 z0 z1 z2 z3 f0 f1 f2 f3
      have z0 : w6.cell? ⟨w.heap.size + 1 + 1, 0, none⟩ = some (.int .i64 0) := (blk_cell Z8.out 0).trans rfl
      have z1 : w6.cell? ⟨w.heap.size + 1 + 1, 1, none⟩ = some (.int .i64 0) := (blk_cell Z8.out 1).trans rfl
      have z2 : w6.cell? ⟨w.heap.size + 1 + 1, 2, none⟩ = some (.bool false) := (blk_cell Z8.out 2).trans rfl
      have z3 : w6.cell? ⟨w.heap.size + 1 + 1, 3, none⟩ = some (.bool false) := (blk_cell Z8.out 3).trans rfl
      have f0 : w6.frozen? ⟨w.heap.size + 1 + 1, 0, none⟩ = false := blk_frozen Z8.out 0
      have f1 : w6.frozen? ⟨w.heap.size + 1 + 1, 1, none⟩ = false := blk_frozen Z8.out 1
      have f2 : w6.frozen? ⟨w.heap.size + 1 + 1, 2, none⟩ = false := blk_frozen Z8.out 2
      have f3 : w6.frozen? ⟨w.heap.size + 1 + 1, 3, none⟩ = false := blk_frozen Z8.out 3
      go_wp2
      (have Z6 := blk_put (blk_put (blk_put (blk_put (Z8).out 0 (.int .i64 b1) rfl) 1 (.int .i64 b2) rfl) 2 (.bool b3) rfl) 3 (.bool b4) rfl; have L6 : Below w.heap.size w ((((w6).setCell ⟨w.heap.size + 1 + 1, 0, none⟩ (.int .i64 b1)).setCell ⟨w.heap.size + 1 + 1, 1, none⟩ (.int .i64 b2)).setCell ⟨w.heap.size + 1 + 1, 2, none⟩ (.bool b3) |>.setCell ⟨w.heap.size + 1 + 1, 3, none⟩ (.bool b4)) := ((((L8).out.setCell (by simp; omega) _).setCell (by simp; omega) _).setCell (by simp; omega) _).setCell (by simp; omega) _; generalize ((((w6).setCell ⟨w.heap.size + 1 + 1, 0, none⟩ (.int .i64 b1)).setCell ⟨w.heap.size + 1 + 1, 1, none⟩ (.int .i64 b2)).setCell ⟨w.heap.size + 1 + 1, 2, none⟩ (.bool b3) |>.setCell ⟨w.heap.size + 1 + 1, 3, none⟩ (.bool b4)) = w7 at Z6 L6 ⊢; have k0 : w7.cell? ⟨w.heap.size + 1 + 1, 0, none⟩ = some (.int .i64 b1) := (blk_cell Z6 0).trans rfl; have k1 : w7.cell? ⟨w.heap.size + 1 + 1, 1, none⟩ = some (.int .i64 b2) := (blk_cell Z6 1).trans rfl; have k2 : w7.cell? ⟨w.heap.size + 1 + 1, 2, none⟩ = some (.bool b3) := (blk_cell Z6 2).trans rfl; have k3 : w7.cell? ⟨w.heap.size + 1 + 1, 3, none⟩ = some (.bool b4) := (blk_cell Z6 3).trans rfl; refine bodyPost_ret (v := .tuple #[.agg #[.int .i64 b1, .int .i64 b2, .bool b3, .bool b4], .string ⟨#[117]⟩]) (by simp [results, Try.results30, go_sem, k0, k1, k2, k3]) rfl ⟨rfl, L6⟩)
    rw [if_neg d3] at hn
    have g3 : (y2 == t1) = false := by simpa using d3
    clear d3
    by_cases d4 : y2 = 0
    · rw [if_pos d4] at hn
      have g4 : (y2 == 0) = true := by simpa using d4
      clear d4
      obtain ⟨⟨b1, b2, b3, b4⟩, hx, hy⟩ := Option.bind_eq_some_iff.mp hn
      simp only [Option.some.injEq, Prod.mk.injEq] at hy
      obtain ⟨rfl, rfl, rfl, rfl, rfl⟩ := hy
      have HX := Aside0.mk hx
      clear hn hx
      go_wp2_with fail
      refine (impl_inward.calls t0 t1 x2 y2 r u b1 b2 b3 b4 _ HX.out).mono ?_
      rintro e w6 ⟨rfl, hb⟩
      have Z8 := Aside0.mk (blk_below Z5.out hb)
      have L8 := Aside0.mk (below_step L5.out hb)
      clear hb B5 T5 Z5 L5 a0 a1 q0 q1 q2 q3 z0 z1 z2 z3 f0 f1 f2 f3
      have z0 : w6.cell? ⟨w.heap.size + 1 + 1, 0, none⟩ = some (.int .i64 0) := (blk_cell Z8.out 0).trans rfl
      have z1 : w6.cell? ⟨w.heap.size + 1 + 1, 1, none⟩ = some (.int .i64 0) := (blk_cell Z8.out 1).trans rfl
      have z2 : w6.cell? ⟨w.heap.size + 1 + 1, 2, none⟩ = some (.bool false) := (blk_cell Z8.out 2).trans rfl
      have z3 : w6.cell? ⟨w.heap.size + 1 + 1, 3, none⟩ = some (.bool false) := (blk_cell Z8.out 3).trans rfl
      have f0 : w6.frozen? ⟨w.heap.size + 1 + 1, 0, none⟩ = false := blk_frozen Z8.out 0
      have f1 : w6.frozen? ⟨w.heap.size + 1 + 1, 1, none⟩ = false := blk_frozen Z8.out 1
      have f2 : w6.frozen? ⟨w.heap.size + 1 + 1, 2, none⟩ = false := blk_frozen Z8.out 2
      have f3 : w6.frozen? ⟨w.heap.size + 1 + 1, 3, none⟩ = false := blk_frozen Z8.out 3
      go_wp2
      (have Z6 := blk_put (blk_put (blk_put (blk_put (Z8).out 0 (.int .i64 b1) rfl) 1 (.int .i64 b2) rfl) 2 (.bool b3) rfl) 3 (.bool b4) rfl; have L6 : Below w.heap.size w ((((w6).setCell ⟨w.heap.size + 1 + 1, 0, none⟩ (.int .i64 b1)).setCell ⟨w.heap.size + 1 + 1, 1, none⟩ (.int .i64 b2)).setCell ⟨w.heap.size + 1 + 1, 2, none⟩ (.bool b3) |>.setCell ⟨w.heap.size + 1 + 1, 3, none⟩ (.bool b4)) := ((((L8).out.setCell (by simp; omega) _).setCell (by simp; omega) _).setCell (by simp; omega) _).setCell (by simp; omega) _; generalize ((((w6).setCell ⟨w.heap.size + 1 + 1, 0, none⟩ (.int .i64 b1)).setCell ⟨w.heap.size + 1 + 1, 1, none⟩ (.int .i64 b2)).setCell ⟨w.heap.size + 1 + 1, 2, none⟩ (.bool b3) |>.setCell ⟨w.heap.size + 1 + 1, 3, none⟩ (.bool b4)) = w7 at Z6 L6 ⊢; have k0 : w7.cell? ⟨w.heap.size + 1 + 1, 0, none⟩ = some (.int .i64 b1) := (blk_cell Z6 0).trans rfl; have k1 : w7.cell? ⟨w.heap.size + 1 + 1, 1, none⟩ = some (.int .i64 b2) := (blk_cell Z6 1).trans rfl; have k2 : w7.cell? ⟨w.heap.size + 1 + 1, 2, none⟩ = some (.bool b3) := (blk_cell Z6 2).trans rfl; have k3 : w7.cell? ⟨w.heap.size + 1 + 1, 3, none⟩ = some (.bool b4) := (blk_cell Z6 3).trans rfl; refine bodyPost_ret (v := .tuple #[.agg #[.int .i64 b1, .int .i64 b2, .bool b3, .bool b4], .string ⟨#[100]⟩]) (by simp [results, Try.results30, go_sem, k0, k1, k2, k3]) rfl ⟨rfl, L6⟩)
    rw [if_neg d4] at hn
    have g4 : (y2 == 0) = false := by simpa using d4
    clear d4
    simp only [Option.some.injEq, Prod.mk.injEq] at hn
    obtain ⟨rfl, rfl, rfl, rfl, rfl⟩ := hn
    go_wp2
    (have Z6 := blk_put (blk_put (blk_put (blk_put (Z5).out 0 (.int .i64 x2) rfl) 1 (.int .i64 y2) rfl) 2 (.bool r) rfl) 3 (.bool u) rfl; have L6 : Below w.heap.size w ((((w5).setCell ⟨w.heap.size + 1 + 1, 0, none⟩ (.int .i64 x2)).setCell ⟨w.heap.size + 1 + 1, 1, none⟩ (.int .i64 y2)).setCell ⟨w.heap.size + 1 + 1, 2, none⟩ (.bool r) |>.setCell ⟨w.heap.size + 1 + 1, 3, none⟩ (.bool u)) := ((((L5).out.setCell (by simp; omega) _).setCell (by simp; omega) _).setCell (by simp; omega) _).setCell (by simp; omega) _; generalize ((((w5).setCell ⟨w.heap.size + 1 + 1, 0, none⟩ (.int .i64 x2)).setCell ⟨w.heap.size + 1 + 1, 1, none⟩ (.int .i64 y2)).setCell ⟨w.heap.size + 1 + 1, 2, none⟩ (.bool r) |>.setCell ⟨w.heap.size + 1 + 1, 3, none⟩ (.bool u)) = w7 at Z6 L6 ⊢; have k0 : w7.cell? ⟨w.heap.size + 1 + 1, 0, none⟩ = some (.int .i64 x2) := (blk_cell Z6 0).trans rfl; have k1 : w7.cell? ⟨w.heap.size + 1 + 1, 1, none⟩ = some (.int .i64 y2) := (blk_cell Z6 1).trans rfl; have k2 : w7.cell? ⟨w.heap.size + 1 + 1, 2, none⟩ = some (.bool r) := (blk_cell Z6 2).trans rfl; have k3 : w7.cell? ⟨w.heap.size + 1 + 1, 3, none⟩ = some (.bool u) := (blk_cell Z6 3).trans rfl; refine bodyPost_ret (v := .tuple #[.agg #[.int .i64 x2, .int .i64 y2, .bool r, .bool u], .string ⟨#[]⟩]) (by simp [results, Try.results30, go_sem, k0, k1, k2, k3]) rfl ⟨rfl, L6⟩)
  · have hn := HN2.out
    clear HN2
    rw [if_pos rfl] at hn
    simp only [Option.some.injEq, Prod.mk.injEq] at hn
    obtain ⟨rfl, rfl, rfl, rfl, rfl⟩ := hn
    go_wp2
    (have Z6 := blk_put (blk_put (blk_put (blk_put (Z5).out 0 (.int .i64 x2) rfl) 1 (.int .i64 y2) rfl) 2 (.bool r) rfl) 3 (.bool u) rfl; have L6 : Below w.heap.size w ((((w5).setCell ⟨w.heap.size + 1 + 1, 0, none⟩ (.int .i64 x2)).setCell ⟨w.heap.size + 1 + 1, 1, none⟩ (.int .i64 y2)).setCell ⟨w.heap.size + 1 + 1, 2, none⟩ (.bool r) |>.setCell ⟨w.heap.size + 1 + 1, 3, none⟩ (.bool u)) := ((((L5).out.setCell (by simp; omega) _).setCell (by simp; omega) _).setCell (by simp; omega) _).setCell (by simp; omega) _; generalize ((((w5).setCell ⟨w.heap.size + 1 + 1, 0, none⟩ (.int .i64 x2)).setCell ⟨w.heap.size + 1 + 1, 1, none⟩ (.int .i64 y2)).setCell ⟨w.heap.size + 1 + 1, 2, none⟩ (.bool r) |>.setCell ⟨w.heap.size + 1 + 1, 3, none⟩ (.bool u)) = w7 at Z6 L6 ⊢; have k0 : w7.cell? ⟨w.heap.size + 1 + 1, 0, none⟩ = some (.int .i64 x2) := (blk_cell Z6 0).trans rfl; have k1 : w7.cell? ⟨w.heap.size + 1 + 1, 1, none⟩ = some (.int .i64 y2) := (blk_cell Z6 1).trans rfl; have k2 : w7.cell? ⟨w.heap.size + 1 + 1, 2, none⟩ = some (.bool r) := (blk_cell Z6 2).trans rfl; have k3 : w7.cell? ⟨w.heap.size + 1 + 1, 3, none⟩ = some (.bool u) := (blk_cell Z6 3).trans rfl; refine bodyPost_ret (v := .tuple #[.agg #[.int .i64 x2, .int .i64 y2, .bool r, .bool u], .string ⟨#[]⟩]) (by simp [results, Try.results30, go_sem, k0, k1, k2, k3]) rfl ⟨rfl, L6⟩)
end Go.Proofs.Ytiembijmopimgaa.CNext
