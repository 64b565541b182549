/- The walk of impl.BouncesWithin: out is a variable that the closure captures. No condition beside the plain function's result. -/
import Derived.Test.YtiembijmopimgaaNext
namespace Go.Proofs.Ytiembijmopimgaa.BW
open Go.RowKit Go.Proofs.Ytiembijmopimgaa.PFnExactBouncesWithin Go.Proofs.YtiembijmopimgaaW.PrintWords Go.Proofs.Ytiembijmopimgaa.Follow Go.Proofs.Ytiembijmopimgaa.Next
set_option linter.unusedVariables false
set_option linter.unusedSimpArgs false

/-- What impl.BouncesWithin comes to. -/
def bwO (k : Nat) (t0 t1 x y : Int) (r u : Bool) (n : Int) : Option (ByteArray × Bool) :=
  (impl_IsBeam.f t0 t1 x y r u).bind fun b =>
    if b = true then (impl_within.f n 0 1000).bind fun c =>
      if c = true then (impl_inward.f t0 t1 x y r u).bind fun b => (fol k n t0 t1 b.1 b.2.1 b.2.2.1 b.2.2.2 ⟨#[]⟩ 0 ⟨#[]⟩).bind fun R => some (R, true)
      else some (⟨#[]⟩, false)
    else some (⟨#[]⟩, false)

set_option maxHeartbeats 2000000 in
set_option maxRecDepth 100000 in
theorem bw_walk (k : Nat) (t0 t1 x y : Int) (r u : Bool) (n : Int) (s : ByteArray) (ok : Bool) (w : World) (h : bwO k t0 t1 x y r u n = some (s, ok)) :
    Calls Try.prog 9 #[.agg #[.int .i64 t0, .int .i64 t1], .agg #[.int .i64 x, .int .i64 y, .bool r, .bool u], .int .i64 n] w fun e w' => e = .returned (.tuple #[.string s, .bool ok]) ∧ Below w.heap.size w w' := by
  have H := Aside0.mk h
  clear h
  go_enter Try.func9, Try.ntmps9
  go_wp2_with fail
  have hh := H.out
  clear H
  unfold bwO at hh
  obtain ⟨b, hb0, hh1⟩ := Option.bind_eq_some_iff.mp hh
  have HB0 := Aside0.mk hb0
  have HH := Aside0.mk hh1
  clear hh hb0 hh1
  refine (impl_IsBeam.calls t0 t1 x y r u b _ HB0.out).mono ?_
  rintro e w1 ⟨rfl, hb⟩
  have T1 := Aside0.mk (blk_below (blk_alloc (blk_first w #[.int .i64 t0, .int .i64 t1] 28) (.cells #[.int .i64 x, .int .i64 y, .bool r, .bool u] 30)) hb)
  have B1 := Aside0.mk (blk_below (show (((w.alloc (.cells #[.int .i64 t0, .int .i64 t1] 28)).alloc (.cells #[.int .i64 x, .int .i64 y, .bool r, .bool u] 30)).heap[w.heap.size + 1]? = some (.cells #[.int .i64 x, .int .i64 y, .bool r, .bool u] 30 (0, 0))) from by
    have := blk_first (w.alloc (.cells #[.int .i64 t0, .int .i64 t1] 28)) #[.int .i64 x, .int .i64 y, .bool r, .bool u] 30
    simpa using this) hb)
  have L1 := Aside0.mk (below_step (below_alloc (below_alloc (Below.refl _ _) (.cells #[.int .i64 t0, .int .i64 t1] 28)) (.cells #[.int .i64 x, .int .i64 y, .bool r, .bool u] 30)) hb)
  clear hb
  cases b
  · have hh := HH.out
    rw [if_neg (by simp)] at hh
    simp only [Option.some.injEq, Prod.mk.injEq] at hh
    obtain ⟨rfl, rfl⟩ := hh
    clear HH
    go_wp2
    refine bodyPost_ret (v := .tuple #[.string ⟨#[]⟩, .bool false]) (by simp [results, Try.results9, go_sem]) rfl ⟨rfl, L1.out⟩
  have hh := HH.out
  clear HH
  rw [if_pos rfl] at hh
  obtain ⟨c, hc0, hh1⟩ := Option.bind_eq_some_iff.mp hh
  have HC0 := Aside0.mk hc0
  have HH := Aside0.mk hh1
  clear hh hc0 hh1
  go_wp2_with fail
  refine (impl_within.calls n 0 1000 c _ HC0.out).mono ?_
  rintro e w2 ⟨rfl, hd⟩
  have hb := hd.below
  clear hd
  have T2 := Aside0.mk (blk_below T1.out hb)
  have B2 := Aside0.mk (blk_below B1.out hb)
  have L2 := Aside0.mk (below_step L1.out hb)
  clear hb T1 B1 L1
  cases c
  · have hh := HH.out
    rw [if_neg (by simp)] at hh
    simp only [Option.some.injEq, Prod.mk.injEq] at hh
    obtain ⟨rfl, rfl⟩ := hh
    clear HH
    go_wp2
    refine bodyPost_ret (v := .tuple #[.string ⟨#[]⟩, .bool false]) (by simp [results, Try.results9, go_sem]) rfl ⟨rfl, L2.out⟩
  have hh := HH.out
  clear HH
  rw [if_pos rfl] at hh
  obtain ⟨⟨b1, b2, b3, b4⟩, hi0, hh1⟩ := Option.bind_eq_some_iff.mp hh
  obtain ⟨R, hr0, hh2⟩ := Option.bind_eq_some_iff.mp hh1
  simp only [Option.some.injEq, Prod.mk.injEq] at hh2
  obtain ⟨rfl, rfl⟩ := hh2
  have HI := Aside0.mk hi0
  have HR := Aside0.mk hr0
  clear hh hh1 hi0 hr0
  have a0 : w2.cell? ⟨w.heap.size, 0, none⟩ = some (.int .i64 t0) := (blk_cell T2.out 0).trans rfl
  have a1 : w2.cell? ⟨w.heap.size, 1, none⟩ = some (.int .i64 t1) := (blk_cell T2.out 1).trans rfl
  have q0 : w2.cell? ⟨w.heap.size + 1, 0, none⟩ = some (.int .i64 x) := (blk_cell B2.out 0).trans rfl
  have q1 : w2.cell? ⟨w.heap.size + 1, 1, none⟩ = some (.int .i64 y) := (blk_cell B2.out 1).trans rfl
  have q2 : w2.cell? ⟨w.heap.size + 1, 2, none⟩ = some (.bool r) := (blk_cell B2.out 2).trans rfl
  have q3 : w2.cell? ⟨w.heap.size + 1, 3, none⟩ = some (.bool u) := (blk_cell B2.out 3).trans rfl
  have l1 := blk_lt T2.out
  have l2 := blk_lt B2.out
  go_wp2_with fail
  refine (follow_walk k w _ n t0 t1 x y b1 b2 r u b3 b4 ⟨#[]⟩ R w2.heap.size HI.out HR.out (fun x y r u x' y' r' u' s W h => next_walk t0 t1 x y r u x' y' r' u' s W h) (below_alloc L2.out _) L2.out.size (blk_first w2 #[.string ⟨#[]⟩] 9)).mono ?_
  rintro e w3 ⟨rfl, ho, hb⟩
  have L3 := Aside0.mk hb
  have O3 := Aside0.mk ho
  clear ho hb T2 B2 L2 a0 a1 q0 q1 q2 q3
  have o0 : w3.cell? ⟨w2.heap.size, 0, none⟩ = some (.string R) := (blk_cell O3.out 0).trans rfl
  go_wp2
  refine bodyPost_ret (v := .tuple #[.string R, .bool true]) (by simp [results, Try.results9, go_sem]) rfl ⟨rfl, L3.out⟩
end Go.Proofs.Ytiembijmopimgaa.BW
