/- The walk of the law FnLaddersWholeOfAll: where the law as a plain function answers true, it returns true. Conditions: the library's variables (Ready); the law as a plain function answers true (h, hr). Turned from the print program's text. -/
import Derived.Test.YtkhhlnpiogfofaaDoorLWLaw10
import Derived.Test.YtkhhlnpiogfofaaDoorLWF
import Derived.Test.YtkhhlnpiogfofaaDoorGiven
import Derived.Test.YtkhhlnpiogfofaaDoorLW0
import Derived.Test.YtkhhlnpiogfofaaDoorLW1
import Derived.Test.YtkhhlnpiogfofaaDoorLW2
import Derived.Test.YtkhhlnpiogfofaaDoorLW3
import Derived.Test.YtkhhlnpiogfofaaDoorLW4
import Derived.Test.YtkhhlnpiogfofaaDoorLW5
import Derived.Test.YtkhhlnpiogfofaaDoorLW6
import Derived.Test.YtkhhlnpiogfofaaDoorLW9
namespace Go.Proofs.YtkhhlnpiogfofaaDoor.LWLaw
open Go.RowKit Go.Proofs.YtkhhlnpiogfofaaDoorW.PrintWords Go.Proofs.YtkhhlnpiogfofaaDoorW.PrintLast Go.Proofs.YtkhhlnpiogfofaaDoorW.PrintMore Go.Proofs.YtkhhlnpiogfofaaDoor.Given Go.Proofs.YtkhhlnpiogfofaaDoor.TextC Go.Proofs.YtkhhlnpiogfofaaDoor.PFnLaddersWholeOfAll
set_option linter.unusedVariables false
set_option linter.unusedSimpArgs false
set_option linter.unnecessarySimpa false
set_option maxHeartbeats 8000000 in
set_option maxRecDepth 100000 in
theorem walk (k : Nat) (a0_0 : Int) (a0_1 : Int) (a0_2 : Int) (a1 : Int) (a2 : Int) (a3_0 : Int) (a3_1 : Int) (a3_2 : Int) (a4 : Int) (a5 : ByteArray) (r : Bool) (w : World) (h : laws_FnLaddersWholeOfAll.f k a0_0 a0_1 a0_2 a1 a2 a3_0 a3_1 a3_2 a4 a5 = some r) (hr : r = true) (hR : Aside0 (Ready w)) :
    Calls Tryd.prog 3 #[.agg #[.int .i64 a0_0, .int .i64 a0_1, .int .i64 a0_2], .int .i64 a1, .int .i64 a2, .agg #[.int .i64 a3_0, .int .i64 a3_1, .int .i64 a3_2], .int .i64 a4, .string a5] w fun e w' => e = .returned (.bool r) ∧ Below w.heap.size w w' := by
  have hu23 := Tryd.underlying23
  have HB := Aside0.mk (Below.refl w.heap.size w)
  have H : (if (a5.size : Int) > 1048576 then (some true) else ((impl_SquaresOf.f a0_0 a0_1 a0_2).bind fun bt328 => ((spec_SquaresOf.f a0_0 a0_1 a0_2).bind fun bt331 => ((impl_LengthsOf.f k a0_0 a0_1 a0_2).bind fun bt334 => ((spec_LengthsOf.f k a0_0 a0_1 a0_2).bind fun bt337 => ((impl_IsWholeCrossing.f k a0_0 a0_1 a0_2).bind fun bt340 => ((spec_IsWholeCrossing.f k a0_0 a0_1 a0_2).bind fun bt342 => (if (bt328.2.2 != bt331.2.2) = true then (laws_FnLaddersWholeOfAll.j0 k a1 a2 a4 a5 bt328.1 bt328.2.1 bt328.2.2 bt334.1 bt334.2.1 bt334.2.2 bt340.1 true a0_0 a0_1 a0_2 a3_0 a3_1 a3_2) else (if bt328.1 = bt331.1 then (if bt328.2.1 = bt331.2.1 then (if (bt334.2.2 != bt337.2.2) = true then (laws_FnLaddersWholeOfAll.j0 k a1 a2 a4 a5 bt328.1 bt328.2.1 bt328.2.2 bt334.1 bt334.2.1 bt334.2.2 bt340.1 true a0_0 a0_1 a0_2 a3_0 a3_1 a3_2) else (if bt334.1 = bt337.1 then (if bt334.2.1 = bt337.2.1 then (if (bt340.2 != bt342.2) = true then (laws_FnLaddersWholeOfAll.j0 k a1 a2 a4 a5 bt328.1 bt328.2.1 bt328.2.2 bt334.1 bt334.2.1 bt334.2.2 bt340.1 true a0_0 a0_1 a0_2 a3_0 a3_1 a3_2) else (if (bt340.1 != bt342.1) = true then (laws_FnLaddersWholeOfAll.j0 k a1 a2 a4 a5 bt328.1 bt328.2.1 bt328.2.2 bt334.1 bt334.2.1 bt334.2.2 bt340.1 true a0_0 a0_1 a0_2 a3_0 a3_1 a3_2) else ((impl_AreLadders.f a0_0 a0_1 a0_2).bind fun t344 => (if (bt328.2.2 != t344) = true then (laws_FnLaddersWholeOfAll.j0 k a1 a2 a4 a5 bt328.1 bt328.2.1 bt328.2.2 bt334.1 bt334.2.1 bt334.2.2 bt340.1 true a0_0 a0_1 a0_2 a3_0 a3_1 a3_2) else (if (bt340.2 != bt328.2.2) = true then (laws_FnLaddersWholeOfAll.j0 k a1 a2 a4 a5 bt328.1 bt328.2.1 bt328.2.2 bt334.1 bt334.2.1 bt334.2.2 bt340.1 true a0_0 a0_1 a0_2 a3_0 a3_1 a3_2) else (if bt334.2.2 = true then (laws_FnLaddersWholeOfAll.j0 k a1 a2 a4 a5 bt328.1 bt328.2.1 bt328.2.2 bt334.1 bt334.2.1 bt334.2.2 bt340.1 (!bt328.2.2) a0_0 a0_1 a0_2 a3_0 a3_1 a3_2) else (laws_FnLaddersWholeOfAll.j0 k a1 a2 a4 a5 bt328.1 bt328.2.1 bt328.2.2 bt334.1 bt334.2.1 bt334.2.2 bt340.1 false a0_0 a0_1 a0_2 a3_0 a3_1 a3_2))))))) else (laws_FnLaddersWholeOfAll.j0 k a1 a2 a4 a5 bt328.1 bt328.2.1 bt328.2.2 bt334.1 bt334.2.1 bt334.2.2 bt340.1 true a0_0 a0_1 a0_2 a3_0 a3_1 a3_2)) else (laws_FnLaddersWholeOfAll.j0 k a1 a2 a4 a5 bt328.1 bt328.2.1 bt328.2.2 bt334.1 bt334.2.1 bt334.2.2 bt340.1 true a0_0 a0_1 a0_2 a3_0 a3_1 a3_2))) else (laws_FnLaddersWholeOfAll.j0 k a1 a2 a4 a5 bt328.1 bt328.2.1 bt328.2.2 bt334.1 bt334.2.1 bt334.2.2 bt340.1 true a0_0 a0_1 a0_2 a3_0 a3_1 a3_2)) else (laws_FnLaddersWholeOfAll.j0 k a1 a2 a4 a5 bt328.1 bt328.2.1 bt328.2.2 bt334.1 bt334.2.1 bt334.2.2 bt340.1 true a0_0 a0_1 a0_2 a3_0 a3_1 a3_2)))))))))) = some r := h
  clear h
  by_cases c7 : (a5.size : Int) > 1048576
  · rw [if_pos c7] at H
    have c7b0 : decide (1048576 < (a5.size : Int)) = true := decide_eq_true c7
    have c7b1 : decide (1048576 < a5.size) = true := decide_eq_true (by omega)
    clear c7
    obtain rfl := Option.some.inj H
    go_enter Tryd.func3, Tryd.ntmps3
    (try simp only [List.append_eq, List.cons_append, List.nil_append])
    go_wp2_with (first | ((with_reducible refine gate_dst (N := 6) rfl ?_); (try (refine gate_guard (by rfl) ?_; dsimp only)); refine box_event ?hg (N := 6) ?hd (cs := #[.int .i64 a0_0, .int .i64 a0_1, .int .i64 a0_2]) (t := 23) ?hr ?_; (case hd => rfl); (case hg => rfl); (case hr => first | (go_simp; done) | (go_simp; rfl)); intro gb326 hg w8 hbox hb; have n0_ := Aside0.mk (below_step HB.out hb); have n1_ := Aside0.mk (hbox); have n2_ := Aside0.mk ((by rw [hg]; exact (below_size HB.out) : w.heap.size ≤ gb326)); have n3_ := Aside0.mk ((by rw [hg]; exact (below_size HB.out) : w.heap.size ≤ gb326)); clear HB; have HB := n0_; have BK326 := n1_; have GW326 := n2_; have GE326 := n3_; clear n0_ n1_ n2_ n3_; clear hb hbox hg) | ((with_reducible refine gate_dst (N := 9) rfl ?_); (try (refine gate_guard (by rfl) ?_; dsimp only)); refine box_event ?hg (N := 9) ?hd (cs := #[.int .i64 a3_0, .int .i64 a3_1, .int .i64 a3_2]) (t := 23) ?hr ?_; (case hd => rfl); (case hg => rfl); (case hr => first | (go_simp; done) | (go_simp; rfl)); intro gb327 hg w9 hbox hb; have n0_ := Aside0.mk (blk_below BK326.out hb); have n1_ := Aside0.mk (below_step HB.out hb); have n2_ := Aside0.mk (hbox); have n3_ := Aside0.mk ((by rw [hg]; exact (below_size HB.out) : w.heap.size ≤ gb327)); have n4_ := Aside0.mk ((by rw [hg]; exact (below_size HB.out) : w.heap.size ≤ gb327)); have n5_ := Aside0.mk ((by rw [hg]; exact Nat.ne_of_lt (blk_lt BK326.out) : gb326 ≠ gb327)); have n6_ := Aside0.mk ((by rw [hg]; exact Nat.ne_of_gt (blk_lt BK326.out) : gb327 ≠ gb326)); clear BK326; clear HB; have BK326 := n0_; have HB := n1_; have BK327 := n2_; have GW327 := n3_; have GE327 := n4_; have NB326_327 := n5_; have NB327_326 := n6_; clear n0_ n1_ n2_ n3_ n4_ n5_ n6_; clear hb hbox hg))
    go_ret
    exact ⟨by first | rfl | (simp [errW_none, errW_some] <;> rfl) | (simp [*, errW_none, errW_some] <;> rfl), by repeat (first | (with_reducible first | exact HB.out | apply below_alloc | apply pw_below_drewN | apply below_drew1 | refine below_set ?_ GE326.out | refine below_set ?_ GE327.out) | exact HB.out)⟩
  · rw [if_neg c7] at H
    have c7b0 : decide (1048576 < (a5.size : Int)) = false := decide_eq_false c7
    have c7b1 : decide (1048576 < a5.size) = false := decide_eq_false (by omega)
    clear c7
    replace H := Option.bind_eq_some_iff.mp H
    obtain ⟨⟨t328, t329, t330⟩, A100, H⟩ := H
    try dsimp only at H
    have A10 := Aside0.mk A100
    clear A100
    replace H := Option.bind_eq_some_iff.mp H
    obtain ⟨⟨t331, t332, t333⟩, A110, H⟩ := H
    try dsimp only at H
    have A11 := Aside0.mk A110
    clear A110
    replace H := Option.bind_eq_some_iff.mp H
    obtain ⟨⟨t334, t335, t336⟩, A120, H⟩ := H
    try dsimp only at H
    have A12 := Aside0.mk A120
    clear A120
    replace H := Option.bind_eq_some_iff.mp H
    obtain ⟨⟨t337, t338, t339⟩, A130, H⟩ := H
    try dsimp only at H
    have A13 := Aside0.mk A130
    clear A130
    replace H := Option.bind_eq_some_iff.mp H
    obtain ⟨⟨t340, t341⟩, A140, H⟩ := H
    try dsimp only at H
    have A14 := Aside0.mk A140
    clear A140
    replace H := Option.bind_eq_some_iff.mp H
    obtain ⟨⟨t342, t343⟩, A150, H⟩ := H
    try dsimp only at H
    have A15 := Aside0.mk A150
    clear A150
    have HC16 := Aside0.mk H
    clear H
    go_enter Tryd.func3, Tryd.ntmps3
    (try simp only [List.append_eq, List.cons_append, List.nil_append])
    go_upto_region 9 with (first | ((with_reducible refine gate_dst (N := 6) rfl ?_); (try (refine gate_guard (by rfl) ?_; dsimp only)); refine box_event ?hg (N := 6) ?hd (cs := #[.int .i64 a0_0, .int .i64 a0_1, .int .i64 a0_2]) (t := 23) ?hr ?_; (case hd => rfl); (case hg => rfl); (case hr => first | (go_simp; done) | (go_simp; rfl)); intro gb326 hg w17 hbox hb; have n0_ := Aside0.mk (below_step HB.out hb); have n1_ := Aside0.mk (hbox); have n2_ := Aside0.mk ((by rw [hg]; exact (below_size HB.out) : w.heap.size ≤ gb326)); have n3_ := Aside0.mk ((by rw [hg]; exact (below_size HB.out) : w.heap.size ≤ gb326)); clear HB; have HB := n0_; have BK326 := n1_; have GW326 := n2_; have GE326 := n3_; clear n0_ n1_ n2_ n3_; clear hb hbox hg) | ((with_reducible refine gate_dst (N := 9) rfl ?_); (try (refine gate_guard (by rfl) ?_; dsimp only)); refine box_event ?hg (N := 9) ?hd (cs := #[.int .i64 a3_0, .int .i64 a3_1, .int .i64 a3_2]) (t := 23) ?hr ?_; (case hd => rfl); (case hg => rfl); (case hr => first | (go_simp; done) | (go_simp; rfl)); intro gb327 hg w18 hbox hb; have n0_ := Aside0.mk (blk_below BK326.out hb); have n1_ := Aside0.mk (below_step HB.out hb); have n2_ := Aside0.mk (hbox); have n3_ := Aside0.mk ((by rw [hg]; exact (below_size HB.out) : w.heap.size ≤ gb327)); have n4_ := Aside0.mk ((by rw [hg]; exact (below_size HB.out) : w.heap.size ≤ gb327)); have n5_ := Aside0.mk ((by rw [hg]; exact Nat.ne_of_lt (blk_lt BK326.out) : gb326 ≠ gb327)); have n6_ := Aside0.mk ((by rw [hg]; exact Nat.ne_of_gt (blk_lt BK326.out) : gb327 ≠ gb326)); clear BK326; clear HB; have BK326 := n0_; have HB := n1_; have BK327 := n2_; have GW327 := n3_; have GE327 := n4_; have NB326_327 := n5_; have NB327_326 := n6_; clear n0_ n1_ n2_ n3_ n4_ n5_ n6_; clear hb hbox hg; have hcz20_0 : w18.cell? ⟨gb326, 0, none⟩ = some (.int .i64 a0_0) := (blk_cell BK326.out 0).trans rfl; have hcz20_1 : w18.cell? ⟨gb326, 1, none⟩ = some (.int .i64 a0_1) := (blk_cell BK326.out 1).trans rfl; have hcz20_2 : w18.cell? ⟨gb326, 2, none⟩ = some (.int .i64 a0_2) := (blk_cell BK326.out 2).trans rfl; have hfz20_0 := blk_frozen BK326.out 0; have hfz20_1 := blk_frozen BK326.out 1; have hfz20_2 := blk_frozen BK326.out 2) | (go_at_call 5; (with_reducible refine (impl_SquaresOf.calls a0_0 a0_1 a0_2 t328 t329 t330 _ A10.out).mono ?_); rintro e w21 ⟨rfl, hb⟩; have n0_ := Aside0.mk (blk_below BK326.out hb); have n1_ := Aside0.mk (blk_below BK327.out hb); have n2_ := Aside0.mk (below_step HB.out hb); clear BK326; clear BK327; clear HB; have BK326 := n0_; have BK327 := n1_; have HB := n2_; clear n0_ n1_ n2_; (try clear hb); (try clear hb2); (try clear hk); (try clear hi); have hcz22_0 : w21.cell? ⟨gb326, 0, none⟩ = some (.int .i64 a0_0) := (blk_cell BK326.out 0).trans rfl; have hcz22_1 : w21.cell? ⟨gb326, 1, none⟩ = some (.int .i64 a0_1) := (blk_cell BK326.out 1).trans rfl; have hcz22_2 : w21.cell? ⟨gb326, 2, none⟩ = some (.int .i64 a0_2) := (blk_cell BK326.out 2).trans rfl; have hfz22_0 := blk_frozen BK326.out 0; have hfz22_1 := blk_frozen BK326.out 1; have hfz22_2 := blk_frozen BK326.out 2) | (go_at_call 6; (with_reducible refine (spec_SquaresOf.calls a0_0 a0_1 a0_2 t331 t332 t333 _ A11.out).mono ?_); rintro e w23 ⟨rfl, hb⟩; have n0_ := Aside0.mk (blk_below BK326.out hb); have n1_ := Aside0.mk (blk_below BK327.out hb); have n2_ := Aside0.mk (below_step HB.out hb); clear BK326; clear BK327; clear HB; have BK326 := n0_; have BK327 := n1_; have HB := n2_; clear n0_ n1_ n2_; (try clear hb); (try clear hb2); (try clear hk); (try clear hi); have hcz24_0 : w23.cell? ⟨gb326, 0, none⟩ = some (.int .i64 a0_0) := (blk_cell BK326.out 0).trans rfl; have hcz24_1 : w23.cell? ⟨gb326, 1, none⟩ = some (.int .i64 a0_1) := (blk_cell BK326.out 1).trans rfl; have hcz24_2 : w23.cell? ⟨gb326, 2, none⟩ = some (.int .i64 a0_2) := (blk_cell BK326.out 2).trans rfl; have hfz24_0 := blk_frozen BK326.out 0; have hfz24_1 := blk_frozen BK326.out 1; have hfz24_2 := blk_frozen BK326.out 2) | (go_at_call 7; (with_reducible refine (impl_LengthsOf.calls k a0_0 a0_1 a0_2 t334 t335 t336 _ A12.out).mono ?_); rintro e w25 ⟨rfl, hb⟩; have n0_ := Aside0.mk (blk_below BK326.out hb); have n1_ := Aside0.mk (blk_below BK327.out hb); have n2_ := Aside0.mk (below_step HB.out hb); clear BK326; clear BK327; clear HB; have BK326 := n0_; have BK327 := n1_; have HB := n2_; clear n0_ n1_ n2_; (try clear hb); (try clear hb2); (try clear hk); (try clear hi); have hcz26_0 : w25.cell? ⟨gb326, 0, none⟩ = some (.int .i64 a0_0) := (blk_cell BK326.out 0).trans rfl; have hcz26_1 : w25.cell? ⟨gb326, 1, none⟩ = some (.int .i64 a0_1) := (blk_cell BK326.out 1).trans rfl; have hcz26_2 : w25.cell? ⟨gb326, 2, none⟩ = some (.int .i64 a0_2) := (blk_cell BK326.out 2).trans rfl; have hfz26_0 := blk_frozen BK326.out 0; have hfz26_1 := blk_frozen BK326.out 1; have hfz26_2 := blk_frozen BK326.out 2) | (go_at_call 8; (with_reducible refine (spec_LengthsOf.calls k a0_0 a0_1 a0_2 t337 t338 t339 _ A13.out).mono ?_); rintro e w27 ⟨rfl, hb⟩; have n0_ := Aside0.mk (blk_below BK326.out hb); have n1_ := Aside0.mk (blk_below BK327.out hb); have n2_ := Aside0.mk (below_step HB.out hb); clear BK326; clear BK327; clear HB; have BK326 := n0_; have BK327 := n1_; have HB := n2_; clear n0_ n1_ n2_; (try clear hb); (try clear hb2); (try clear hk); (try clear hi); have hcz28_0 : w27.cell? ⟨gb326, 0, none⟩ = some (.int .i64 a0_0) := (blk_cell BK326.out 0).trans rfl; have hcz28_1 : w27.cell? ⟨gb326, 1, none⟩ = some (.int .i64 a0_1) := (blk_cell BK326.out 1).trans rfl; have hcz28_2 : w27.cell? ⟨gb326, 2, none⟩ = some (.int .i64 a0_2) := (blk_cell BK326.out 2).trans rfl; have hfz28_0 := blk_frozen BK326.out 0; have hfz28_1 := blk_frozen BK326.out 1; have hfz28_2 := blk_frozen BK326.out 2) | (go_at_call 9; (with_reducible refine (impl_IsWholeCrossing.calls k a0_0 a0_1 a0_2 t340 t341 _ A14.out).mono ?_); rintro e w29 ⟨rfl, hb⟩; have n0_ := Aside0.mk (blk_below BK326.out hb); have n1_ := Aside0.mk (blk_below BK327.out hb); have n2_ := Aside0.mk (below_step HB.out hb); clear BK326; clear BK327; clear HB; have BK326 := n0_; have BK327 := n1_; have HB := n2_; clear n0_ n1_ n2_; (try clear hb); (try clear hb2); (try clear hk); (try clear hi); have hcz30_0 : w29.cell? ⟨gb326, 0, none⟩ = some (.int .i64 a0_0) := (blk_cell BK326.out 0).trans rfl; have hcz30_1 : w29.cell? ⟨gb326, 1, none⟩ = some (.int .i64 a0_1) := (blk_cell BK326.out 1).trans rfl; have hcz30_2 : w29.cell? ⟨gb326, 2, none⟩ = some (.int .i64 a0_2) := (blk_cell BK326.out 2).trans rfl; have hfz30_0 := blk_frozen BK326.out 0; have hfz30_1 := blk_frozen BK326.out 1; have hfz30_2 := blk_frozen BK326.out 2) | (go_at_call 10; (with_reducible refine (spec_IsWholeCrossing.calls k a0_0 a0_1 a0_2 t342 t343 _ A15.out).mono ?_); rintro e w31 ⟨rfl, hb⟩; have n0_ := Aside0.mk (blk_below BK326.out hb); have n1_ := Aside0.mk (blk_below BK327.out hb); have n2_ := Aside0.mk (below_step HB.out hb); clear BK326; clear BK327; clear HB; have BK326 := n0_; have BK327 := n1_; have HB := n2_; clear n0_ n1_ n2_; (try clear hb); (try clear hb2); (try clear hk); (try clear hi)))
    (try simp only [Act.put, List.setIfInBounds_toArray, List.set_cons_zero, List.set_cons_succ])
    go_cut [177] from 177 to 177 (fun v177 wc => ∃ (kq : Nat) (x177_15 : Bool), v177 = .bool x177_15 ∧ Aside0 (laws_FnLaddersWholeOfAll.j0 kq a1 a2 a4 a5 t328 t329 t330 t334 t335 t336 t340 x177_15 a0_0 a0_1 a0_2 a3_0 a3_1 a3_2 = some r) ∧ Aside0 (kq ≤ k) ∧ Aside0 (wc.heap[gb326]? = some (.cells #[.int .i64 a0_0, .int .i64 a0_1, .int .i64 a0_2] 23 (0, 0))) ∧ Aside0 (wc.heap[gb327]? = some (.cells #[.int .i64 a3_0, .int .i64 a3_1, .int .i64 a3_2] 23 (0, 0))) ∧ Aside0 (Below w.heap.size w wc))
    case first =>
      have H := HC16.out
      clear HC16
      have c32 : ¬ ((t330 != t333) = true) := fun c32 => by rw [if_pos c32] at H; (with_reducible first | exact dS H hr | exact d0 H hr | exact d2 H hr | exact d3 H hr | exact d8 H hr | cases H)
      rw [if_neg c32] at H
      have c32b0 : (t330 != t333) = false := by simpa using c32
      (try (have c32b1 : decide (t330 = t333) = true := by simpa using c32))
      (try (have c32b2 : (t330 == t333) = true := by simpa using c32))
      clear c32
      (first | rw [c32b0] | (simp only [i64_w, i32_w]; rw [c32b0]) | skip)
      have c33 : t328 = t331 := Decidable.byContradiction fun c33 => by rw [if_neg c33] at H; (with_reducible first | exact dS H hr | exact d0 H hr | exact d2 H hr | exact d3 H hr | exact d8 H hr | cases H)
      rw [if_pos c33] at H
      have c33b0 : (t328 == t331) = true := beq_iff_eq.mpr c33
      have c33b1 : (t328 != t331) = false := bne_eq_false_iff_eq.mpr c33
      clear c33
      have c34 : t329 = t332 := Decidable.byContradiction fun c34 => by rw [if_neg c34] at H; (with_reducible first | exact dS H hr | exact d0 H hr | exact d2 H hr | exact d3 H hr | exact d8 H hr | cases H)
      rw [if_pos c34] at H
      have c34b0 : (t329 == t332) = true := beq_iff_eq.mpr c34
      have c34b1 : (t329 != t332) = false := bne_eq_false_iff_eq.mpr c34
      clear c34
      have c35 : ¬ ((t336 != t339) = true) := fun c35 => by rw [if_pos c35] at H; (with_reducible first | exact dS H hr | exact d0 H hr | exact d2 H hr | exact d3 H hr | exact d8 H hr | cases H)
      rw [if_neg c35] at H
      have c35b0 : (t336 != t339) = false := by simpa using c35
      (try (have c35b1 : decide (t336 = t339) = true := by simpa using c35))
      (try (have c35b2 : (t336 == t339) = true := by simpa using c35))
      clear c35
      have c36 : t334 = t337 := Decidable.byContradiction fun c36 => by rw [if_neg c36] at H; (with_reducible first | exact dS H hr | exact d0 H hr | exact d2 H hr | exact d3 H hr | exact d8 H hr | cases H)
      rw [if_pos c36] at H
      have c36b0 : (t334 == t337) = true := beq_iff_eq.mpr c36
      have c36b1 : (t334 != t337) = false := bne_eq_false_iff_eq.mpr c36
      clear c36
      have c37 : t335 = t338 := Decidable.byContradiction fun c37 => by rw [if_neg c37] at H; (with_reducible first | exact dS H hr | exact d0 H hr | exact d2 H hr | exact d3 H hr | exact d8 H hr | cases H)
      rw [if_pos c37] at H
      have c37b0 : (t335 == t338) = true := beq_iff_eq.mpr c37
      have c37b1 : (t335 != t338) = false := bne_eq_false_iff_eq.mpr c37
      clear c37
      have c38 : ¬ ((t341 != t343) = true) := fun c38 => by rw [if_pos c38] at H; (with_reducible first | exact dS H hr | exact d0 H hr | exact d2 H hr | exact d3 H hr | exact d8 H hr | cases H)
      rw [if_neg c38] at H
      have c38b0 : (t341 != t343) = false := by simpa using c38
      (try (have c38b1 : decide (t341 = t343) = true := by simpa using c38))
      (try (have c38b2 : (t341 == t343) = true := by simpa using c38))
      clear c38
      have c39 : ¬ ((t340 != t342) = true) := fun c39 => by rw [if_pos c39] at H; (with_reducible first | exact dS H hr | exact d0 H hr | exact d2 H hr | exact d3 H hr | exact d8 H hr | cases H)
      rw [if_neg c39] at H
      have c39b0 : (t340 != t342) = false := by simpa using c39
      (try (have c39b1 : decide (t340 = t342) = true := by simpa using c39))
      (try (have c39b2 : (t340 == t342) = true := by simpa using c39))
      clear c39
      replace H := Option.bind_eq_some_iff.mp H
      obtain ⟨t344, A400, H⟩ := H
      try dsimp only at H
      have A40 := Aside0.mk A400
      clear A400
      have c41 : ¬ ((t330 != t344) = true) := fun c41 => by rw [if_pos c41] at H; (with_reducible first | exact dS H hr | exact d0 H hr | exact d2 H hr | exact d3 H hr | exact d8 H hr | cases H)
      rw [if_neg c41] at H
      have c41b0 : (t330 != t344) = false := by simpa using c41
      (try (have c41b1 : decide (t330 = t344) = true := by simpa using c41))
      (try (have c41b2 : (t330 == t344) = true := by simpa using c41))
      clear c41
      have c45 : ¬ ((t341 != t330) = true) := fun c45 => by rw [if_pos c45] at H; (with_reducible first | exact dS H hr | exact d0 H hr | exact d2 H hr | exact d3 H hr | exact d8 H hr | cases H)
      rw [if_neg c45] at H
      have c45b0 : (t341 != t330) = false := by simpa using c45
      (try (have c45b1 : decide (t341 = t330) = true := by simpa using c45))
      (try (have c45b2 : (t341 == t330) = true := by simpa using c45))
      clear c45
      by_cases c49 : t336 = true
      · subst c49
        rw [if_pos rfl] at H
        have H' := Aside0.mk H
        clear H
        have hcz51_0 : w31.cell? ⟨gb326, 0, none⟩ = some (.int .i64 a0_0) := (blk_cell BK326.out 0).trans rfl
        have hcz51_1 : w31.cell? ⟨gb326, 1, none⟩ = some (.int .i64 a0_1) := (blk_cell BK326.out 1).trans rfl
        have hcz51_2 : w31.cell? ⟨gb326, 2, none⟩ = some (.int .i64 a0_2) := (blk_cell BK326.out 2).trans rfl
        have hfz51_0 := blk_frozen BK326.out 0
        have hfz51_1 := blk_frozen BK326.out 1
        have hfz51_2 := blk_frozen BK326.out 2
        go_wp2_with (first | (go_at_call 11; (with_reducible refine (impl_AreLadders.calls a0_0 a0_1 a0_2 t344 _ A40.out).mono ?_); rintro e w52 ⟨rfl, hb⟩; have n0_ := Aside0.mk (blk_below BK326.out hb); have n1_ := Aside0.mk (blk_below BK327.out hb); have n2_ := Aside0.mk (below_step HB.out hb); clear BK326; clear BK327; clear HB; have BK326 := n0_; have BK327 := n1_; have HB := n2_; clear n0_ n1_ n2_; (try clear hb); (try clear hb2); (try clear hk); (try clear hi)))
        go_meet
        case rel => exact ⟨_, (!t330), (by first | rfl | (simp; done) | (simp [*]; done)), H', ⟨by first | omega | exact Nat.le_refl _⟩, ⟨BK326.out⟩, ⟨BK327.out⟩, ⟨by repeat (first | (with_reducible first | exact HB.out | apply below_alloc | apply pw_below_drewN | apply below_drew1 | refine below_set ?_ GE326.out | refine below_set ?_ GE327.out) | exact HB.out)⟩⟩
      · replace c49 := Bool.eq_false_iff.mpr c49
        subst c49
        rw [if_neg (show ¬ (false = true) by decide)] at H
        have H' := Aside0.mk H
        clear H
        have hcz54_0 : w31.cell? ⟨gb326, 0, none⟩ = some (.int .i64 a0_0) := (blk_cell BK326.out 0).trans rfl
        have hcz54_1 : w31.cell? ⟨gb326, 1, none⟩ = some (.int .i64 a0_1) := (blk_cell BK326.out 1).trans rfl
        have hcz54_2 : w31.cell? ⟨gb326, 2, none⟩ = some (.int .i64 a0_2) := (blk_cell BK326.out 2).trans rfl
        have hfz54_0 := blk_frozen BK326.out 0
        have hfz54_1 := blk_frozen BK326.out 1
        have hfz54_2 := blk_frozen BK326.out 2
        go_wp2_with (first | (go_at_call 11; (with_reducible refine (impl_AreLadders.calls a0_0 a0_1 a0_2 t344 _ A40.out).mono ?_); rintro e w55 ⟨rfl, hb⟩; have n0_ := Aside0.mk (blk_below BK326.out hb); have n1_ := Aside0.mk (blk_below BK327.out hb); have n2_ := Aside0.mk (below_step HB.out hb); clear BK326; clear BK327; clear HB; have BK326 := n0_; have BK327 := n1_; have HB := n2_; clear n0_ n1_ n2_; (try clear hb); (try clear hb2); (try clear hk); (try clear hi)))
        go_meet
        case rel => exact ⟨_, (false), (by first | rfl | (simp; done) | (simp [*]; done)), H', ⟨by first | omega | exact Nat.le_refl _⟩, ⟨BK326.out⟩, ⟨BK327.out⟩, ⟨by repeat (first | (with_reducible first | exact HB.out | apply below_alloc | apply pw_below_drewN | apply below_drew1 | refine below_set ?_ GE326.out | refine below_set ?_ GE327.out) | exact HB.out)⟩⟩
    case rest =>
      clear HC16
      obtain ⟨kq, x177_15, rfl, HA, HJ15, BK326, BK327, HB⟩ := hcut
      cases kq with
      | zero => exact absurd HA.out (by simp [laws_FnLaddersWholeOfAll.j0])
      | succ kj15 =>
        have H := HA.out
        clear HA
        simp only [laws_FnLaddersWholeOfAll.j0] at H
        have c56 : ¬ (x177_15 = true) := fun c56 => by rw [if_pos c56] at H; (with_reducible first | exact dS H hr | exact d0 H hr | exact d2 H hr | exact d3 H hr | exact d8 H hr | cases H)
        replace c56 := Bool.eq_false_iff.mpr c56
        subst c56
        rw [if_neg (show ¬ (false = true) by decide)] at H
        have HC57 := Aside0.mk H
        clear H
        go_upto_if 178 with (fail)
        repeat (go_quiet (fail); go_upto_if 178 with (fail))
        rename_i K1 hK1
        have HK : Aside0 (∀ a w_, (dropC 10 (Tryd.f3.body.getD Code.skip)).wp Tryd.prog (bodyPost Tryd.prog Tryd.f3 fun e w' => e = .returned (.bool r) ∧ Below w.heap.size w w') a w_ → K1 a w_) := ⟨hK1⟩
        clear hK1
        go_cut [] from 178 to 178 (fun wc => ∃ (kq : Nat), Aside0 (laws_FnLaddersWholeOfAll.j1 kq a1 a2 a4 a5 a3_0 a3_1 a3_2 = some r) ∧ Aside0 (kq ≤ kj15) ∧ Aside0 (wc.heap[gb326]? = some (.cells #[.int .i64 a0_0, .int .i64 a0_1, .int .i64 a0_2] 23 (0, 0))) ∧ Aside0 (wc.heap[gb327]? = some (.cells #[.int .i64 a3_0, .int .i64 a3_1, .int .i64 a3_2] 23 (0, 0))) ∧ Aside0 (Below w.heap.size w wc))
        case first =>
          have H := HC57.out
          clear HC57
          by_cases c58 : t330 = true
          · subst c58
            rw [if_pos rfl] at H
            replace H := Option.bind_eq_some_iff.mp H
            obtain ⟨⟨t345, t346, t347⟩, A590, H⟩ := H
            try dsimp only at H
            have A59 := Aside0.mk A590
            clear A590
            have c60 : t328 = (wrap64 ((wrap64 (a0_0 * a0_0)) + (wrap64 (a0_1 * a0_1)))) := Decidable.byContradiction fun c60 => by rw [if_neg c60] at H; (with_reducible first | exact dS H hr | exact d0 H hr | exact d2 H hr | exact d3 H hr | exact d8 H hr | cases H)
            rw [if_pos c60] at H
            have c60b0 : (t328 == (wrap64 ((wrap64 (a0_0 * a0_0)) + (wrap64 (a0_1 * a0_1))))) = true := beq_iff_eq.mpr c60
            have c60b1 : (t328 != (wrap64 ((wrap64 (a0_0 * a0_0)) + (wrap64 (a0_1 * a0_1))))) = false := bne_eq_false_iff_eq.mpr c60
            clear c60
            (first | rw [c60b0] | (simp only [i64_w, i32_w]; rw [c60b0]) | skip)
            have c61 : t329 = (wrap64 ((wrap64 (a0_0 * a0_0)) + (wrap64 (a0_2 * a0_2)))) := Decidable.byContradiction fun c61 => by rw [if_neg c61] at H; (with_reducible first | exact dS H hr | exact d0 H hr | exact d2 H hr | exact d3 H hr | exact d8 H hr | cases H)
            rw [if_pos c61] at H
            have c61b0 : (t329 == (wrap64 ((wrap64 (a0_0 * a0_0)) + (wrap64 (a0_2 * a0_2))))) = true := beq_iff_eq.mpr c61
            have c61b1 : (t329 != (wrap64 ((wrap64 (a0_0 * a0_0)) + (wrap64 (a0_2 * a0_2))))) = false := bne_eq_false_iff_eq.mpr c61
            clear c61
            by_cases c62 : t336 = true
            · subst c62
              rw [if_pos rfl] at H
              have c63 : (wrap64 (t334 * t334)) = t328 := Decidable.byContradiction fun c63 => by rw [if_neg c63] at H; (with_reducible first | exact dS H hr | exact d0 H hr | exact d2 H hr | exact d3 H hr | exact d8 H hr | cases H)
              rw [if_pos c63] at H
              have c63b0 : ((wrap64 (t334 * t334)) == t328) = true := beq_iff_eq.mpr c63
              have c63b1 : ((wrap64 (t334 * t334)) != t328) = false := bne_eq_false_iff_eq.mpr c63
              clear c63
              have c64 : (wrap64 (t335 * t335)) = t329 := Decidable.byContradiction fun c64 => by rw [if_neg c64] at H; (with_reducible first | exact dS H hr | exact d0 H hr | exact d2 H hr | exact d3 H hr | exact d8 H hr | cases H)
              rw [if_pos c64] at H
              have c64b0 : ((wrap64 (t335 * t335)) == t329) = true := beq_iff_eq.mpr c64
              have c64b1 : ((wrap64 (t335 * t335)) != t329) = false := bne_eq_false_iff_eq.mpr c64
              clear c64
              have c65 : ¬ (t334 ≤ a0_0) := fun c65 => by rw [if_pos c65] at H; (with_reducible first | exact dS H hr | exact d0 H hr | exact d2 H hr | exact d3 H hr | exact d8 H hr | cases H)
              rw [if_neg c65] at H
              have c65b0 : decide (t334 ≤ a0_0) = false := decide_eq_false c65
              clear c65
              have c70 : ¬ (t335 ≤ a0_0) := fun c70 => by rw [if_pos c70] at H; (with_reducible first | exact dS H hr | exact d0 H hr | exact d2 H hr | exact d3 H hr | exact d8 H hr | cases H)
              rw [if_neg c70] at H
              have c70b0 : decide (t335 ≤ a0_0) = false := decide_eq_false c70
              clear c70
              have c75 : t347 = true := Decidable.byContradiction fun c75 => by rw [if_neg c75] at H; (with_reducible first | exact dS H hr | exact d0 H hr | exact d2 H hr | exact d3 H hr | exact d8 H hr | cases H)
              subst c75
              rw [if_pos rfl] at H
              have c76 : ¬ (t345 < 1) := fun c76 => by rw [if_pos c76] at H; (with_reducible first | exact dS H hr | exact d0 H hr | exact d2 H hr | exact d3 H hr | exact d8 H hr | cases H)
              rw [if_neg c76] at H
              have c76b0 : decide (t345 < 1) = false := decide_eq_false c76
              clear c76
              have c81 : ¬ ((t340 != (t346 == 1)) = true) := fun c81 => by rw [if_pos c81] at H; (with_reducible first | exact dS H hr | exact d0 H hr | exact d2 H hr | exact d3 H hr | exact d8 H hr | cases H)
              rw [if_neg c81] at H
              have c81b0 : (t340 != (t346 == 1)) = false := by simpa using c81
              (try (have c81b1 : decide (t340 = (t346 == 1)) = true := by simpa using c81))
              (try (have c81b2 : (t340 == (t346 == 1)) = true := by simpa using c81))
              clear c81
              have H' := Aside0.mk H
              clear H
              have hcz87_0 : wc.cell? ⟨gb326, 0, none⟩ = some (.int .i64 a0_0) := (blk_cell BK326.out 0).trans rfl
              have hcz87_1 : wc.cell? ⟨gb326, 1, none⟩ = some (.int .i64 a0_1) := (blk_cell BK326.out 1).trans rfl
              have hcz87_2 : wc.cell? ⟨gb326, 2, none⟩ = some (.int .i64 a0_2) := (blk_cell BK326.out 2).trans rfl
              have hfz87_0 := blk_frozen BK326.out 0
              have hfz87_1 := blk_frozen BK326.out 1
              have hfz87_2 := blk_frozen BK326.out 2
              go_wp2_with (first | (go_at_call 12; (with_reducible refine (impl_CrossHeight.calls kj15 a0_0 a0_1 a0_2 t345 t346 true _ A59.out).mono ?_); rintro e w88 ⟨rfl, hb⟩; have n0_ := Aside0.mk (blk_below BK326.out hb); have n1_ := Aside0.mk (blk_below BK327.out hb); have n2_ := Aside0.mk (below_step HB.out hb); clear BK326; clear BK327; clear HB; have BK326 := n0_; have BK327 := n1_; have HB := n2_; clear n0_ n1_ n2_; (try clear hb); (try clear hb2); (try clear hk); (try clear hi); have hcz89_0 : w88.cell? ⟨gb326, 0, none⟩ = some (.int .i64 a0_0) := (blk_cell BK326.out 0).trans rfl; have hcz89_1 : w88.cell? ⟨gb326, 1, none⟩ = some (.int .i64 a0_1) := (blk_cell BK326.out 1).trans rfl; have hcz89_2 : w88.cell? ⟨gb326, 2, none⟩ = some (.int .i64 a0_2) := (blk_cell BK326.out 2).trans rfl; have hfz89_0 := blk_frozen BK326.out 0; have hfz89_1 := blk_frozen BK326.out 1; have hfz89_2 := blk_frozen BK326.out 2))
              go_meet
              case rel => exact ⟨_, H', ⟨by have := HJ15.out; first | omega | exact Nat.le_refl _⟩, ⟨BK326.out⟩, ⟨BK327.out⟩, ⟨by repeat (first | (with_reducible first | exact HB.out | apply below_alloc | apply pw_below_drewN | apply below_drew1 | refine below_set ?_ GE326.out | refine below_set ?_ GE327.out) | exact HB.out)⟩⟩
            · replace c62 := Bool.eq_false_iff.mpr c62
              subst c62
              rw [if_neg (show ¬ (false = true) by decide)] at H
              have c102 : t347 = true := Decidable.byContradiction fun c102 => by rw [if_neg c102] at H; (with_reducible first | exact dS H hr | exact d0 H hr | exact d2 H hr | exact d3 H hr | exact d8 H hr | cases H)
              subst c102
              rw [if_pos rfl] at H
              have c103 : ¬ (t345 < 1) := fun c103 => by rw [if_pos c103] at H; (with_reducible first | exact dS H hr | exact d0 H hr | exact d2 H hr | exact d3 H hr | exact d8 H hr | cases H)
              rw [if_neg c103] at H
              have c103b0 : decide (t345 < 1) = false := decide_eq_false c103
              clear c103
              have c108 : ¬ ((t340 != false) = true) := fun c108 => by rw [if_pos c108] at H; (with_reducible first | exact dS H hr | exact d0 H hr | exact d2 H hr | exact d3 H hr | exact d8 H hr | cases H)
              rw [if_neg c108] at H
              have c108b0 : (t340 != false) = false := by simpa using c108
              (try (have c108b1 : decide (t340 = false) = true := by simpa using c108))
              (try (have c108b2 : (t340 == false) = true := by simpa using c108))
              clear c108
              have H' := Aside0.mk H
              clear H
              have hcz114_0 : wc.cell? ⟨gb326, 0, none⟩ = some (.int .i64 a0_0) := (blk_cell BK326.out 0).trans rfl
              have hcz114_1 : wc.cell? ⟨gb326, 1, none⟩ = some (.int .i64 a0_1) := (blk_cell BK326.out 1).trans rfl
              have hcz114_2 : wc.cell? ⟨gb326, 2, none⟩ = some (.int .i64 a0_2) := (blk_cell BK326.out 2).trans rfl
              have hfz114_0 := blk_frozen BK326.out 0
              have hfz114_1 := blk_frozen BK326.out 1
              have hfz114_2 := blk_frozen BK326.out 2
              go_wp2_with (first | (go_at_call 12; (with_reducible refine (impl_CrossHeight.calls kj15 a0_0 a0_1 a0_2 t345 t346 true _ A59.out).mono ?_); rintro e w115 ⟨rfl, hb⟩; have n0_ := Aside0.mk (blk_below BK326.out hb); have n1_ := Aside0.mk (blk_below BK327.out hb); have n2_ := Aside0.mk (below_step HB.out hb); clear BK326; clear BK327; clear HB; have BK326 := n0_; have BK327 := n1_; have HB := n2_; clear n0_ n1_ n2_; (try clear hb); (try clear hb2); (try clear hk); (try clear hi); have hcz116_0 : w115.cell? ⟨gb326, 0, none⟩ = some (.int .i64 a0_0) := (blk_cell BK326.out 0).trans rfl; have hcz116_1 : w115.cell? ⟨gb326, 1, none⟩ = some (.int .i64 a0_1) := (blk_cell BK326.out 1).trans rfl; have hcz116_2 : w115.cell? ⟨gb326, 2, none⟩ = some (.int .i64 a0_2) := (blk_cell BK326.out 2).trans rfl; have hfz116_0 := blk_frozen BK326.out 0; have hfz116_1 := blk_frozen BK326.out 1; have hfz116_2 := blk_frozen BK326.out 2))
              go_meet
              case rel => exact ⟨_, H', ⟨by have := HJ15.out; first | omega | exact Nat.le_refl _⟩, ⟨BK326.out⟩, ⟨BK327.out⟩, ⟨by repeat (first | (with_reducible first | exact HB.out | apply below_alloc | apply pw_below_drewN | apply below_drew1 | refine below_set ?_ GE326.out | refine below_set ?_ GE327.out) | exact HB.out)⟩⟩
          · replace c58 := Bool.eq_false_iff.mpr c58
            subst c58
            rw [if_neg (show ¬ (false = true) by decide)] at H
            have H' := Aside0.mk H
            clear H
            go_wp2
            repeat (go_quiet (fail); try go_wp2)
            go_meet
            case rel => exact ⟨_, H', ⟨by have := HJ15.out; first | omega | exact Nat.le_refl _⟩, ⟨BK326.out⟩, ⟨BK327.out⟩, ⟨by repeat (first | (with_reducible first | exact HB.out | apply below_alloc | apply pw_below_drewN | apply below_drew1 | refine below_set ?_ GE326.out | refine below_set ?_ GE327.out) | exact HB.out)⟩⟩
        case rest =>
          obtain ⟨kq, HA, HJ56, BK326, BK327, HB⟩ := hcut
          exact HK.out _ _ (rest10 k a0_0 a0_1 a0_2 a1 a2 a3_0 a3_1 a3_2 a4 a5 gb326 gb327 kj15 kq r w _ hr hR HA HJ56 BK326 BK327 HB GW326 GE326 GW327 GE327 NB326_327 NB327_326 HJ15)
end Go.Proofs.YtkhhlnpiogfofaaDoor.LWLaw
