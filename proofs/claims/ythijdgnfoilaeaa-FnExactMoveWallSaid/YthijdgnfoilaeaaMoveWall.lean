/- The walks of spec.MoveWall, impl.MoveWall and the law FnExactMoveWall: each comes to the same ladders and the same answer. No condition. The callees' contracts are the printed ones of the law FnExactMirrorLadders of the same seat. -/
import Derived.Test.YthijdgnfoilaeaaPFnExactMirrorLaddersx1
namespace Go.Proofs.Ythijdgnfoilaeaa.MoveWall
open Go.RowKit Go.Proofs.Ythijdgnfoilaeaa.PFnExactMirrorLadders Go.Proofs.YthijdgnfoilaeaaW.PrintWords
set_option linter.unusedVariables false
set_option linter.unusedSimpArgs false

theorem bcell {W w1 : World} (hb : Below W.heap.size W w1) : (∀ b o, b < W.heap.size → w1.cell? ⟨b, o, none⟩ = W.cell? ⟨b, o, none⟩) ∧ (∀ b o, b < W.heap.size → w1.frozen? ⟨b, o, none⟩ = W.frozen? ⟨b, o, none⟩) :=
  ⟨fun b o h => hb.cell (p := ⟨b, o, none⟩) h, fun b o h => hb.frozen (p := ⟨b, o, none⟩) h⟩
theorem two_below {w w1 : World} {o1 o2 : Obj} (hb : Below ((w.alloc o1).alloc o2).heap.size ((w.alloc o1).alloc o2) w1) : Below w.heap.size w w1 :=
  (((Below.refl _ _).alloc (Nat.le_refl _) _).alloc (by simp) _).trans (hb.mono (by simp; omega))

set_option maxHeartbeats 1000000 in
set_option maxRecDepth 100000 in
theorem spec_yes (a b c d : Int) (w : World) (h1 : spec_clGood.f a b c = some true) (h2 : spec_l1In.f d (-1000) 1000 = some true) (h3 : spec_l1In.f (wrap64 (a + d)) 1 1000 = some true) :
    Calls Try.prog 24 #[.agg #[.int .i64 a, .int .i64 b, .int .i64 c], .int .i64 d] w fun e w' => e = .returned (.tuple #[.agg #[.int .i64 (wrap64 (a + d)), .int .i64 b, .int .i64 c], .bool true]) ∧ Below w.heap.size w w' := by
  have H1 := Aside0.mk h1
  have H2 := Aside0.mk h2
  have H3 := Aside0.mk h3
  clear h1 h2 h3
  go_enter Try.func24, Try.ntmps24
  go_wp2_with fail
  refine (spec_clGood.calls a b c true _ H1.out).mono ?_
  rintro e w1 ⟨rfl, hb⟩
  have h0 := Aside0.mk (two_below hb)
  obtain ⟨hc, hf⟩ := bcell hb
  have hz : w.heap.size + 1 < w1.heap.size := by have := hb.size; simp at this; omega
  go_wp2_with fail
  refine (spec_l1In.calls d (-1000) 1000 true _ H2.out).mono ?_
  rintro e w2 ⟨rfl, ⟨nd, rfl⟩⟩
  go_wp2_with fail
  refine (spec_l1In.calls _ 1 1000 true _ H3.out).mono ?_
  rintro e w3 ⟨rfl, ⟨nd2, rfl⟩⟩
  go_wp2
  refine bodyPost_ret (v := .tuple #[.agg #[.int .i64 (wrap64 (a + d)), .int .i64 b, .int .i64 c], .bool true]) (by simp [results, Try.results24, go_sem, hc, hz]) rfl ⟨rfl, ?_⟩
  repeat (first | refine Below.setCell ?_ (by simp) _ | refine pw_below_drewN ?_ _ | exact h0.out)

set_option maxHeartbeats 1000000 in
set_option maxRecDepth 100000 in
theorem spec_no1 (a b c d : Int) (w : World) (h1 : spec_clGood.f a b c = some false) :
    Calls Try.prog 24 #[.agg #[.int .i64 a, .int .i64 b, .int .i64 c], .int .i64 d] w fun e w' => e = .returned (.tuple #[.agg #[.int .i64 0, .int .i64 0, .int .i64 0], .bool false]) ∧ Below w.heap.size w w' := by
  have H1 := Aside0.mk h1
  clear h1
  go_enter Try.func24, Try.ntmps24
  go_wp2_with fail
  refine (spec_clGood.calls a b c false _ H1.out).mono ?_
  rintro e w1 ⟨rfl, hb⟩
  have h0 := Aside0.mk (two_below hb)
  obtain ⟨hc, hf⟩ := bcell hb
  have hz : w.heap.size + 1 < w1.heap.size := by have := hb.size; simp at this; omega
  go_wp2
  refine bodyPost_ret (v := .tuple #[.agg #[.int .i64 0, .int .i64 0, .int .i64 0], .bool false]) (by simp [results, Try.results24, go_sem, hc, hz]) rfl ⟨rfl, ?_⟩
  repeat (first | refine Below.setCell ?_ (by simp) _ | refine pw_below_drewN ?_ _ | exact h0.out)

set_option maxHeartbeats 1000000 in
set_option maxRecDepth 100000 in
theorem spec_no2 (a b c d : Int) (w : World) (h1 : spec_clGood.f a b c = some true) (h2 : spec_l1In.f d (-1000) 1000 = some false) :
    Calls Try.prog 24 #[.agg #[.int .i64 a, .int .i64 b, .int .i64 c], .int .i64 d] w fun e w' => e = .returned (.tuple #[.agg #[.int .i64 0, .int .i64 0, .int .i64 0], .bool false]) ∧ Below w.heap.size w w' := by
  have H1 := Aside0.mk h1
  have H2 := Aside0.mk h2
  clear h1 h2
  go_enter Try.func24, Try.ntmps24
  go_wp2_with fail
  refine (spec_clGood.calls a b c true _ H1.out).mono ?_
  rintro e w1 ⟨rfl, hb⟩
  have h0 := Aside0.mk (two_below hb)
  obtain ⟨hc, hf⟩ := bcell hb
  have hz : w.heap.size + 1 < w1.heap.size := by have := hb.size; simp at this; omega
  go_wp2_with fail
  refine (spec_l1In.calls d (-1000) 1000 false _ H2.out).mono ?_
  rintro e w2 ⟨rfl, ⟨nd, rfl⟩⟩
  go_wp2
  refine bodyPost_ret (v := .tuple #[.agg #[.int .i64 0, .int .i64 0, .int .i64 0], .bool false]) (by simp [results, Try.results24, go_sem, hc, hz]) rfl ⟨rfl, ?_⟩
  repeat (first | refine Below.setCell ?_ (by simp) _ | refine pw_below_drewN ?_ _ | exact h0.out)

set_option maxHeartbeats 1000000 in
set_option maxRecDepth 100000 in
theorem spec_no3 (a b c d : Int) (w : World) (h1 : spec_clGood.f a b c = some true) (h2 : spec_l1In.f d (-1000) 1000 = some true) (h3 : spec_l1In.f (wrap64 (a + d)) 1 1000 = some false) :
    Calls Try.prog 24 #[.agg #[.int .i64 a, .int .i64 b, .int .i64 c], .int .i64 d] w fun e w' => e = .returned (.tuple #[.agg #[.int .i64 0, .int .i64 0, .int .i64 0], .bool false]) ∧ Below w.heap.size w w' := by
  have H1 := Aside0.mk h1
  have H2 := Aside0.mk h2
  have H3 := Aside0.mk h3
  clear h1 h2 h3
  go_enter Try.func24, Try.ntmps24
  go_wp2_with fail
  refine (spec_clGood.calls a b c true _ H1.out).mono ?_
  rintro e w1 ⟨rfl, hb⟩
  have h0 := Aside0.mk (two_below hb)
  obtain ⟨hc, hf⟩ := bcell hb
  have hz : w.heap.size + 1 < w1.heap.size := by have := hb.size; simp at this; omega
  go_wp2_with fail
  refine (spec_l1In.calls d (-1000) 1000 true _ H2.out).mono ?_
  rintro e w2 ⟨rfl, ⟨nd, rfl⟩⟩
  go_wp2_with fail
  refine (spec_l1In.calls _ 1 1000 false _ H3.out).mono ?_
  rintro e w3 ⟨rfl, ⟨nd2, rfl⟩⟩
  go_wp2
  refine bodyPost_ret (v := .tuple #[.agg #[.int .i64 0, .int .i64 0, .int .i64 0], .bool false]) (by simp [results, Try.results24, go_sem, hc, hz]) rfl ⟨rfl, ?_⟩
  repeat (first | refine Below.setCell ?_ (by simp) _ | refine pw_below_drewN ?_ _ | exact h0.out)

/- impl.MoveWall -/
set_option maxHeartbeats 1000000 in
set_option maxRecDepth 100000 in
theorem impl_yes (a b c d x y z : Int) (o : Bool) (w : World) (h1 : impl_AreLadders.f a b c = some true) (h2 : impl_within.f d (-1000) 1000 = some true) (h3 : impl_checkedLadders.f (wrap64 (a + d)) b c = some (x, y, z, o)) :
    Calls Try.prog 25 #[.agg #[.int .i64 a, .int .i64 b, .int .i64 c], .int .i64 d] w fun e w' => e = .returned (.tuple #[.agg #[.int .i64 x, .int .i64 y, .int .i64 z], .bool o]) ∧ Below w.heap.size w w' := by
  have H1 := Aside0.mk h1
  have H2 := Aside0.mk h2
  have H3 := Aside0.mk h3
  clear h1 h2 h3
  go_enter Try.func25, Try.ntmps25
  go_wp2_with fail
  refine (impl_AreLadders.calls a b c true _ H1.out).mono ?_
  rintro e w1 ⟨rfl, hb⟩
  have h0 := Aside0.mk (two_below hb)
  obtain ⟨hc, hf⟩ := bcell hb
  have hz : w.heap.size + 1 < w1.heap.size := by have := hb.size; simp at this; omega
  go_wp2_with fail
  refine (impl_within.calls d (-1000) 1000 true _ H2.out).mono ?_
  rintro e w2 ⟨rfl, ⟨nd, rfl⟩⟩
  go_wp2_with fail
  refine (impl_checkedLadders.calls _ _ _ x y z o _ H3.out).mono ?_
  rintro e w3 ⟨rfl, hb3⟩
  have h3 := Aside0.mk (below_step (pw_below_drewN h0.out nd) hb3)
  have hc3 : ∀ b o, b < w1.heap.size → w3.cell? ⟨b, o, none⟩ = w1.cell? ⟨b, o, none⟩ := fun b o h => hb3.cell (p := ⟨b, o, none⟩) h
  have hf3 : ∀ b o, b < w1.heap.size → w3.frozen? ⟨b, o, none⟩ = w1.frozen? ⟨b, o, none⟩ := fun b o h => hb3.frozen (p := ⟨b, o, none⟩) h
  have hz3 : w.heap.size + 1 < w3.heap.size := Nat.lt_of_lt_of_le hz hb3.size
  go_wp2
  refine bodyPost_ret (v := .tuple #[.agg #[.int .i64 x, .int .i64 y, .int .i64 z], .bool o]) (by simp [results, Try.results25, go_sem, hc, hz, hc3, hz3]) rfl ⟨rfl, ?_⟩
  repeat (first | refine Below.setCell ?_ (by simp) _ | refine pw_below_drewN ?_ _ | exact h3.out)

set_option maxHeartbeats 1000000 in
set_option maxRecDepth 100000 in
theorem impl_no1 (a b c d : Int) (w : World) (h1 : impl_AreLadders.f a b c = some false) :
    Calls Try.prog 25 #[.agg #[.int .i64 a, .int .i64 b, .int .i64 c], .int .i64 d] w fun e w' => e = .returned (.tuple #[.agg #[.int .i64 0, .int .i64 0, .int .i64 0], .bool false]) ∧ Below w.heap.size w w' := by
  have H1 := Aside0.mk h1
  clear h1
  go_enter Try.func25, Try.ntmps25
  go_wp2_with fail
  refine (impl_AreLadders.calls a b c false _ H1.out).mono ?_
  rintro e w1 ⟨rfl, hb⟩
  have h0 := Aside0.mk (two_below hb)
  obtain ⟨hc, hf⟩ := bcell hb
  have hz : w.heap.size + 1 < w1.heap.size := by have := hb.size; simp at this; omega
  go_wp2
  refine bodyPost_ret (v := .tuple #[.agg #[.int .i64 0, .int .i64 0, .int .i64 0], .bool false]) (by simp [results, Try.results25, go_sem, hc, hz]) rfl ⟨rfl, ?_⟩
  repeat (first | refine Below.setCell ?_ (by simp) _ | refine pw_below_drewN ?_ _ | exact h0.out)

set_option maxHeartbeats 1000000 in
set_option maxRecDepth 100000 in
theorem impl_no2 (a b c d : Int) (w : World) (h1 : impl_AreLadders.f a b c = some true) (h2 : impl_within.f d (-1000) 1000 = some false) :
    Calls Try.prog 25 #[.agg #[.int .i64 a, .int .i64 b, .int .i64 c], .int .i64 d] w fun e w' => e = .returned (.tuple #[.agg #[.int .i64 0, .int .i64 0, .int .i64 0], .bool false]) ∧ Below w.heap.size w w' := by
  have H1 := Aside0.mk h1
  have H2 := Aside0.mk h2
  clear h1 h2
  go_enter Try.func25, Try.ntmps25
  go_wp2_with fail
  refine (impl_AreLadders.calls a b c true _ H1.out).mono ?_
  rintro e w1 ⟨rfl, hb⟩
  have h0 := Aside0.mk (two_below hb)
  obtain ⟨hc, hf⟩ := bcell hb
  have hz : w.heap.size + 1 < w1.heap.size := by have := hb.size; simp at this; omega
  go_wp2_with fail
  refine (impl_within.calls d (-1000) 1000 false _ H2.out).mono ?_
  rintro e w2 ⟨rfl, ⟨nd, rfl⟩⟩
  go_wp2
  refine bodyPost_ret (v := .tuple #[.agg #[.int .i64 0, .int .i64 0, .int .i64 0], .bool false]) (by simp [results, Try.results25, go_sem, hc, hz]) rfl ⟨rfl, ?_⟩
  repeat (first | refine Below.setCell ?_ (by simp) _ | refine pw_below_drewN ?_ _ | exact h0.out)

theorem blk_of {w w1 : World} {g : Nat} {cs : Array Value} {t : TypeId} (h : w.heap[g]? = some (.cells cs t (0, 0))) (i : Nat) : w.cell? ⟨g, i, none⟩ = cs[i]? := by simp [World.cell?, h]
theorem blk_first (w : World) (cs : Array Value) (t : TypeId) : (w.alloc (.cells cs t)).heap[w.heap.size]? = some (.cells cs t (0, 0)) := (MapKept.heap_alloc w _).1
theorem blk_next {w w1 : World} {g : Nat} {o : Obj} (h : w.heap[g]? = some o) (hb : Below w.heap.size w w1) : w1.heap[g]? = some o := (hb.block g (Array.getElem?_eq_some_iff.1 h).1).trans h

/- The law: both sides come to x y z o. -/
set_option maxHeartbeats 1000000 in
set_option maxRecDepth 100000 in
theorem law_walk (a b c d x y z : Int) (o : Bool)
    (hs : ∀ w, Calls Try.prog 24 #[.agg #[.int .i64 a, .int .i64 b, .int .i64 c], .int .i64 d] w fun e w' => e = .returned (.tuple #[.agg #[.int .i64 x, .int .i64 y, .int .i64 z], .bool o]) ∧ Below w.heap.size w w')
    (hi : ∀ w, Calls Try.prog 25 #[.agg #[.int .i64 a, .int .i64 b, .int .i64 c], .int .i64 d] w fun e w' => e = .returned (.tuple #[.agg #[.int .i64 x, .int .i64 y, .int .i64 z], .bool o]) ∧ Below w.heap.size w w') (w : World) :
    Calls Try.prog 6 #[.agg #[.int .i64 a, .int .i64 b, .int .i64 c], .int .i64 d] w fun e w' => e = .returned (.bool true) ∧ Below w.heap.size w w' := by
  have HS := Aside0.mk hs
  have HI := Aside0.mk hi
  clear hs hi
  go_enter Try.func6, Try.ntmps6
  go_wp2_with fail
  refine (laws_toLadders.calls a b c a b c _ rfl).mono ?_
  rintro e w1 ⟨rfl, hb1⟩
  have B1 := Aside0.mk (blk_next (blk_first w #[.int .i64 a, .int .i64 b, .int .i64 c] 23) hb1)
  have L1 := Aside0.mk (((Below.refl w.heap.size w).alloc (Nat.le_refl _) _).trans (hb1.mono (by simp)))
  clear hb1
  go_wp2_with fail
  refine (HS.out _).mono ?_
  rintro e w2 ⟨rfl, hb2⟩
  have B2 := Aside0.mk (blk_next B1.out hb2)
  have L2 := Aside0.mk (below_step L1.out hb2)
  have q0 : w2.cell? ⟨w.heap.size, 0, none⟩ = some (.int .i64 a) := (blk_of (w1 := w) B2.out 0).trans rfl
  have q1 : w2.cell? ⟨w.heap.size, 1, none⟩ = some (.int .i64 b) := (blk_of (w1 := w) B2.out 1).trans rfl
  have q2 : w2.cell? ⟨w.heap.size, 2, none⟩ = some (.int .i64 c) := (blk_of (w1 := w) B2.out 2).trans rfl
  have z2 : w.heap.size < w2.heap.size := blk_lt B2.out
  clear hb2
  go_wp2_with fail
  refine (laws_toLadders.calls a b c a b c _ rfl).mono ?_
  rintro e w3 ⟨rfl, hb3⟩
  have C3 := Aside0.mk (blk_next (blk_first w2 #[.int .i64 x, .int .i64 y, .int .i64 z] 24) hb3)
  have L3 := Aside0.mk (below_step (below_alloc L2.out _) hb3)
  clear hb3
  go_wp2_with fail
  refine (HI.out _).mono ?_
  rintro e w4 ⟨rfl, hb4⟩
  have C4 := Aside0.mk (blk_next C3.out hb4)
  have L4 := Aside0.mk (below_step L3.out hb4)
  have s0 : w4.cell? ⟨w2.heap.size, 0, none⟩ = some (.int .i64 x) := (blk_of (w1 := w) C4.out 0).trans rfl
  have s1 : w4.cell? ⟨w2.heap.size, 1, none⟩ = some (.int .i64 y) := (blk_of (w1 := w) C4.out 1).trans rfl
  have s2 : w4.cell? ⟨w2.heap.size, 2, none⟩ = some (.int .i64 z) := (blk_of (w1 := w) C4.out 2).trans rfl
  have z4 : w2.heap.size < w4.heap.size := blk_lt C4.out
  clear hb4
  go_wp2_with fail
  refine (laws_eqLadders.calls x y z x y z true _ (by simp [laws_eqLadders.f])).mono ?_
  rintro e w5 ⟨rfl, hb5⟩
  have L5 := Aside0.mk (below_step (by first | exact L4.out | exact below_alloc L4.out _ | exact below_alloc (below_alloc L4.out _) _) hb5)
  clear hb5
  cases o <;> (go_wp2; go_ret; exact ⟨by simp, L5.out⟩)
end Go.Proofs.Ythijdgnfoilaeaa.MoveWall
