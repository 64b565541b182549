/- The walks of impl.ParseLadders and of the law FnExactParseLadders. Conditions: what the callees tell, as premises. -/
import Derived.Test.YtpmaapalpecjcaaDoorPL3
import Derived.Tactics2
import Derived.WalkSpells
import Derived.BigCall
import Derived.BigGuard
namespace Go.Proofs.YtpmaapalpecjcaaDoor.PLText
open Go.RowKit Go.Proofs.YtpmaapalpecjcaaDoor.PFnExactParseLadders Go.Proofs.YtpmaapalpecjcaaDoorW.PrintWords
set_option linter.unusedVariables false
set_option linter.unusedSimpArgs false

theorem blk_of' {w : World} {g : Nat} {cs : Array Value} {t : TypeId} (h : w.heap[g]? = some (.cells cs t (0, 0))) (i : Nat) : w.cell? ⟨g, i, none⟩ = cs[i]? := by simp [World.cell?, h]

/-- Where one of the three numbers is none. -/
def Three (o1 o2 o3 : Bool) : Prop := o1 = false ∨ (o1 = true ∧ o2 = false) ∨ (o1 = true ∧ o2 = true ∧ o3 = false)

set_option maxHeartbeats 1000000 in
set_option maxRecDepth 100000 in
theorem parse_no (s wide rest left right : ByteArray) (f1 f2 o1 o2 o3 : Bool) (x y z : Int) (w : World) (ho : Three o1 o2 o3)
    (c1 : ∀ w1, Below w.heap.size w w1 → Calls Tryd.prog 33 #[.string s, .string (⟨#[58]⟩ : ByteArray)] w1 fun e w' => e = .returned (.tuple #[.string wide, .string rest, .bool f1]) ∧ Below w1.heap.size w1 w')
    (c2 : ∀ w1, Below w.heap.size w w1 → Calls Tryd.prog 33 #[.string rest, .string (⟨#[47]⟩ : ByteArray)] w1 fun e w' => e = .returned (.tuple #[.string left, .string right, .bool f2]) ∧ Below w1.heap.size w1 w')
    (n1 : ∀ w1, Below w.heap.size w w1 → Calls Tryd.prog 34 #[.string wide] w1 fun e w' => e = .returned (.tuple #[.int .i64 x, .bool o1]) ∧ Below w1.heap.size w1 w')
    (n2 : ∀ w1, Below w.heap.size w w1 → Calls Tryd.prog 34 #[.string left] w1 fun e w' => e = .returned (.tuple #[.int .i64 y, .bool o2]) ∧ Below w1.heap.size w1 w')
    (n3 : ∀ w1, Below w.heap.size w w1 → Calls Tryd.prog 34 #[.string right] w1 fun e w' => e = .returned (.tuple #[.int .i64 z, .bool o3]) ∧ Below w1.heap.size w1 w') :
    Calls Tryd.prog 16 #[.string s] w fun e w' => e = .returned (.tuple #[.agg #[.int .i64 0, .int .i64 0, .int .i64 0], .bool false]) ∧ Below w.heap.size w w' := by
  have C1 := Aside0.mk c1
  have C2 := Aside0.mk c2
  have N1 := Aside0.mk n1
  have N2 := Aside0.mk n2
  have N3 := Aside0.mk n3
  clear c1 c2 n1 n2 n3
  rcases ho with rfl | ⟨rfl, rfl⟩ | ⟨rfl, rfl, rfl⟩ <;>
  · go_enter Tryd.func16, Tryd.ntmps16
    go_wp2_with fail
    refine (C1.out _ (by first | exact below_alloc (Below.refl _ _) _ | exact Below.refl _ _)).mono ?_
    rintro e w1 ⟨rfl, hb1⟩
    have Z1 := Aside0.mk (blk_below (blk_new w (.cells #[.int .i64 0, .int .i64 0, .int .i64 0] 26)) hb1)
    have L1 := Aside0.mk (below_step (below_alloc (Below.refl w.heap.size w) _) hb1)
    clear hb1
    go_wp2_with fail
    refine (C2.out _ L1.out).mono ?_
    rintro e w2 ⟨rfl, hb2⟩
    have Z2 := Aside0.mk (blk_below Z1.out hb2)
    have L2 := Aside0.mk (below_step L1.out hb2)
    clear hb2 Z1 L1
    go_wp2_with fail
    refine (N1.out _ L2.out).mono ?_
    rintro e w3 ⟨rfl, hb3⟩
    have Z3 := Aside0.mk (blk_below Z2.out hb3)
    have L3 := Aside0.mk (below_step L2.out hb3)
    clear hb3 Z2 L2
    go_wp2_with fail
    refine (N2.out _ L3.out).mono ?_
    rintro e w4 ⟨rfl, hb4⟩
    have Z4 := Aside0.mk (blk_below Z3.out hb4)
    have L4 := Aside0.mk (below_step L3.out hb4)
    clear hb4 Z3 L3
    go_wp2_with fail
    refine (N3.out _ L4.out).mono ?_
    rintro e w5 ⟨rfl, hb5⟩
    have Z5 := Aside0.mk (blk_below Z4.out hb5)
    have L5 := Aside0.mk (below_step L4.out hb5)
    clear hb5 Z4 L4
    have k0 : w5.cell? ⟨w.heap.size, 0, none⟩ = some (.int .i64 0) := (blk_of' Z5.out 0).trans rfl
    have k1 : w5.cell? ⟨w.heap.size, 1, none⟩ = some (.int .i64 0) := (blk_of' Z5.out 1).trans rfl
    have k2 : w5.cell? ⟨w.heap.size, 2, none⟩ = some (.int .i64 0) := (blk_of' Z5.out 2).trans rfl
    have y0 := blk_frozen Z5.out 0
    have y1 := blk_frozen Z5.out 1
    have y2 := blk_frozen Z5.out 2
    have hz : w.heap.size < w5.heap.size := blk_lt Z5.out
    go_wp2
    refine bodyPost_ret (results_ct rfl _ _ w.heap.size 26 #[.int .i64 0, .int .i64 0, .int .i64 0] (0, 0) _ rfl (by refine blk_put (cs := #[.int .i64 0, .int .i64 0, .int .i64 0]) ?_ 2 _ rfl; refine blk_put (cs := #[.int .i64 0, .int .i64 0, .int .i64 0]) ?_ 1 _ rfl; refine blk_put (cs := #[.int .i64 0, .int .i64 0, .int .i64 0]) ?_ 0 _ rfl; exact Z5.out) Tryd.underlying26 rfl (by kernel_rfl)) rfl ⟨rfl, ?_⟩
    repeat (first | exact L5.out | refine below_set ?_ (Nat.le_refl _))

set_option maxHeartbeats 1000000 in
set_option maxRecDepth 100000 in
theorem parse_yes (s wide rest left right : ByteArray) (f1 f2 o : Bool) (x y z x' y' z' : Int) (w : World) (hk : impl_checkedLadders.f x y z = some (x', y', z', o))
    (c1 : ∀ w1, Below w.heap.size w w1 → Calls Tryd.prog 33 #[.string s, .string (⟨#[58]⟩ : ByteArray)] w1 fun e w' => e = .returned (.tuple #[.string wide, .string rest, .bool f1]) ∧ Below w1.heap.size w1 w')
    (c2 : ∀ w1, Below w.heap.size w w1 → Calls Tryd.prog 33 #[.string rest, .string (⟨#[47]⟩ : ByteArray)] w1 fun e w' => e = .returned (.tuple #[.string left, .string right, .bool f2]) ∧ Below w1.heap.size w1 w')
    (n1 : ∀ w1, Below w.heap.size w w1 → Calls Tryd.prog 34 #[.string wide] w1 fun e w' => e = .returned (.tuple #[.int .i64 x, .bool true]) ∧ Below w1.heap.size w1 w')
    (n2 : ∀ w1, Below w.heap.size w w1 → Calls Tryd.prog 34 #[.string left] w1 fun e w' => e = .returned (.tuple #[.int .i64 y, .bool true]) ∧ Below w1.heap.size w1 w')
    (n3 : ∀ w1, Below w.heap.size w w1 → Calls Tryd.prog 34 #[.string right] w1 fun e w' => e = .returned (.tuple #[.int .i64 z, .bool true]) ∧ Below w1.heap.size w1 w') :
    Calls Tryd.prog 16 #[.string s] w fun e w' => e = .returned (.tuple #[.agg #[.int .i64 x', .int .i64 y', .int .i64 z'], .bool o]) ∧ Below w.heap.size w w' := by
  have HK := Aside0.mk hk
  have C1 := Aside0.mk c1
  have C2 := Aside0.mk c2
  have N1 := Aside0.mk n1
  have N2 := Aside0.mk n2
  have N3 := Aside0.mk n3
  clear hk c1 c2 n1 n2 n3
  go_enter Tryd.func16, Tryd.ntmps16
  go_wp2_with fail
  refine (C1.out _ (by first | exact below_alloc (Below.refl _ _) _ | exact Below.refl _ _)).mono ?_
  rintro e w1 ⟨rfl, hb1⟩
  have Z1 := Aside0.mk (blk_below (blk_new w (.cells #[.int .i64 0, .int .i64 0, .int .i64 0] 26)) hb1)
  have L1 := Aside0.mk (below_step (below_alloc (Below.refl w.heap.size w) _) hb1)
  clear hb1
  go_wp2_with fail
  refine (C2.out _ L1.out).mono ?_
  rintro e w2 ⟨rfl, hb2⟩
  have Z2 := Aside0.mk (blk_below Z1.out hb2)
  have L2 := Aside0.mk (below_step L1.out hb2)
  clear hb2 Z1 L1
  go_wp2_with fail
  refine (N1.out _ L2.out).mono ?_
  rintro e w3 ⟨rfl, hb3⟩
  have Z3 := Aside0.mk (blk_below Z2.out hb3)
  have L3 := Aside0.mk (below_step L2.out hb3)
  clear hb3 Z2 L2
  go_wp2_with fail
  refine (N2.out _ L3.out).mono ?_
  rintro e w4 ⟨rfl, hb4⟩
  have Z4 := Aside0.mk (blk_below Z3.out hb4)
  have L4 := Aside0.mk (below_step L3.out hb4)
  clear hb4 Z3 L3
  go_wp2_with fail
  refine (N3.out _ L4.out).mono ?_
  rintro e w5 ⟨rfl, hb5⟩
  have Z5 := Aside0.mk (blk_below Z4.out hb5)
  have L5 := Aside0.mk (below_step L4.out hb5)
  clear hb5 Z4 L4
  go_wp2_with fail
  refine (impl_checkedLadders.calls x y z x' y' z' o _ HK.out).mono ?_
  rintro e w6 ⟨rfl, hb6⟩
  have Z6 := Aside0.mk (blk_below Z5.out hb6)
  have L6 := Aside0.mk (below_step L5.out hb6)
  clear hb6 Z5 L5
  have k0 : w6.cell? ⟨w.heap.size, 0, none⟩ = some (.int .i64 0) := (blk_of' Z6.out 0).trans rfl
  have k1 : w6.cell? ⟨w.heap.size, 1, none⟩ = some (.int .i64 0) := (blk_of' Z6.out 1).trans rfl
  have k2 : w6.cell? ⟨w.heap.size, 2, none⟩ = some (.int .i64 0) := (blk_of' Z6.out 2).trans rfl
  have y0 := blk_frozen Z6.out 0
  have y1 := blk_frozen Z6.out 1
  have y2 := blk_frozen Z6.out 2
  have hz : w.heap.size < w6.heap.size := blk_lt Z6.out
  go_wp2
  refine bodyPost_ret (results_ct rfl _ _ w.heap.size 26 #[.int .i64 x', .int .i64 y', .int .i64 z'] (0, 0) _ rfl (by refine blk_put (cs := #[.int .i64 x', .int .i64 y', .int .i64 0]) ?_ 2 _ rfl; refine blk_put (cs := #[.int .i64 x', .int .i64 0, .int .i64 0]) ?_ 1 _ rfl; refine blk_put (cs := #[.int .i64 0, .int .i64 0, .int .i64 0]) ?_ 0 _ rfl; exact Z6.out) Tryd.underlying26 rfl (by kernel_rfl)) rfl ⟨rfl, ?_⟩
  repeat (first | exact L6.out | refine below_set ?_ (Nat.le_refl _))

set_option maxRecDepth 100000 in
theorem law_long (s : ByteArray) (w : World) (h : 1048576 < s.size) : Calls Tryd.prog 5 #[.string s] w fun e w' => e = .returned (.bool true) ∧ Below w.heap.size w w' := by
  have d1 : decide ((1048576 : Int) < (s.size : Int)) = true := decide_eq_true (by omega)
  go_enter Tryd.func5, Tryd.ntmps5
  go_wp2
  go_ret
  exact ⟨rfl, Below.refl _ _⟩

set_option maxHeartbeats 1000000 in
set_option maxRecDepth 100000 in
theorem law_walk (s : ByteArray) (x y z : Int) (o : Bool) (w : World) (h : ¬ 1048576 < s.size)
    (hs : ∀ w1, Below w.heap.size w w1 → Calls Tryd.prog 15 #[.string s] w1 fun e w' => e = .returned (.tuple #[.agg #[.int .i64 x, .int .i64 y, .int .i64 z], .bool o]) ∧ Below w1.heap.size w1 w')
    (hi : ∀ w1, Below w.heap.size w w1 → Calls Tryd.prog 16 #[.string s] w1 fun e w' => e = .returned (.tuple #[.agg #[.int .i64 x, .int .i64 y, .int .i64 z], .bool o]) ∧ Below w1.heap.size w1 w') :
    Calls Tryd.prog 5 #[.string s] w fun e w' => e = .returned (.bool true) ∧ Below w.heap.size w w' := by
  have HS := Aside0.mk hs
  have HI := Aside0.mk hi
  clear hs hi
  have d1 : decide ((1048576 : Int) < (s.size : Int)) = false := decide_eq_false (by omega)
  go_enter Tryd.func5, Tryd.ntmps5
  go_wp2_with fail
  refine (HS.out _ (Below.refl _ _)).mono ?_
  rintro e w2 ⟨rfl, hb2⟩
  have L2 := Aside0.mk hb2
  clear hb2
  go_wp2_with fail
  refine (HI.out _ (below_alloc L2.out _)).mono ?_
  rintro e w4 ⟨rfl, hb4⟩
  have C4 := Aside0.mk (blk_below (blk_new w2 (.cells #[.int .i64 x, .int .i64 y, .int .i64 z] 26)) hb4)
  have L4 := Aside0.mk (below_step (below_alloc L2.out _) hb4)
  have s0 : w4.cell? ⟨w2.heap.size, 0, none⟩ = some (.int .i64 x) := (blk_of' C4.out 0).trans rfl
  have s1 : w4.cell? ⟨w2.heap.size, 1, none⟩ = some (.int .i64 y) := (blk_of' C4.out 1).trans rfl
  have s2 : w4.cell? ⟨w2.heap.size, 2, none⟩ = some (.int .i64 z) := (blk_of' C4.out 2).trans rfl
  have z4 : w2.heap.size < w4.heap.size := blk_lt C4.out
  clear hb4
  go_wp2_with fail
  refine (laws_eqLadders.calls x y z x y z true _ (by simp [laws_eqLadders.f])).mono ?_
  rintro e w5 ⟨rfl, hb5⟩
  have L5 := Aside0.mk (below_step (by first | exact L4.out | exact below_alloc L4.out _ | exact below_alloc (below_alloc L4.out _) _) hb5)
  clear hb5
  cases o <;> (go_wp2; go_ret; exact ⟨by simp, L5.out⟩)
end Go.Proofs.YtpmaapalpecjcaaDoor.PLText
