/- The walks of impl.LaddersText and of the law FnExactLaddersText. Conditions: what impl.text tells, as premises. -/
import Derived.Test.YtpmaapalpecjcaaDoorLT1
import Derived.Deep.RegionHeld3
import Derived.Deep.DeepCutAuto
import Derived.Tactics2
import Derived.WalkSpells
import Derived.StillTactics
import Derived.Laws.Pointers
namespace Go.Proofs.YtpmaapalpecjcaaDoor.LText
open Go.RowKit Go.Proofs.YtpmaapalpecjcaaDoor.PFnExactLaddersText Go.Proofs.YtpmaapalpecjcaaDoorW.PrintWords
set_option linter.unusedVariables false
set_option linter.unusedSimpArgs false

theorem blk_of {w : World} {g : Nat} {cs : Array Value} {t : TypeId} (h : w.heap[g]? = some (.cells cs t (0, 0))) (i : Nat) : w.cell? ⟨g, i, none⟩ = cs[i]? := by simp [World.cell?, h]
theorem blk_first' (w : World) (cs : Array Value) (t : TypeId) : (w.alloc (.cells cs t)).heap[w.heap.size]? = some (.cells cs t (0, 0)) := (MapKept.heap_alloc w _).1
theorem cell_keep {w w1 : World} {p : Addr} {v : Value} (hb : Below w.heap.size w w1) (h : w.cell? p = some v) : w1.cell? p = some v := (hb.cell (World.block_lt_of_cell? w p h)).trans h

theorem thr_call {w0 W w1 : World} {p1 p2 p3 : Addr} {v1 v2 v3 : Value} (hb : Below W.heap.size W w1) (h : Below w0.heap.size w0 W ∧ W.cell? p1 = some v1 ∧ W.cell? p2 = some v2 ∧ W.cell? p3 = some v3) : Below w0.heap.size w0 w1 ∧ w1.cell? p1 = some v1 ∧ w1.cell? p2 = some v2 ∧ w1.cell? p3 = some v3 :=
  ⟨below_step h.1 hb, cell_keep hb h.2.1, cell_keep hb h.2.2.1, cell_keep hb h.2.2.2⟩
theorem thr_drew {w0 W : World} {p1 p2 p3 : Addr} {v1 v2 v3 : Value} (h : Below w0.heap.size w0 W ∧ W.cell? p1 = some v1 ∧ W.cell? p2 = some v2 ∧ W.cell? p3 = some v3) : Below w0.heap.size w0 W.drew ∧ W.drew.cell? p1 = some v1 ∧ W.drew.cell? p2 = some v2 ∧ W.drew.cell? p3 = some v3 :=
  ⟨below_drew1 h.1, h.2⟩

def col : ByteArray := ⟨#[58]⟩
def sla : ByteArray := ⟨#[47]⟩

set_option maxHeartbeats 1000000 in
set_option maxRecDepth 100000 in
theorem ltext_yes (a b c : Int) (sa sb sc : ByteArray) (ha : sa.size ≤ 100) (hb : sb.size ≤ 100) (hc : sc.size ≤ 100) (w : World) (hg : impl_AreLadders.f a b c = some true)
    (ta : ∀ w1, Below w.heap.size w w1 → Calls Tryd.prog 25 #[.int .i64 a] w1 fun e w' => e = .returned (.string sa) ∧ Below w1.heap.size w1 w')
    (tb : ∀ w1, Below w.heap.size w w1 → Calls Tryd.prog 25 #[.int .i64 b] w1 fun e w' => e = .returned (.string sb) ∧ Below w1.heap.size w1 w')
    (tc : ∀ w1, Below w.heap.size w w1 → Calls Tryd.prog 25 #[.int .i64 c] w1 fun e w' => e = .returned (.string sc) ∧ Below w1.heap.size w1 w') :
    Calls Tryd.prog 9 #[.agg #[.int .i64 a, .int .i64 b, .int .i64 c]] w fun e w' => e = .returned (.tuple #[.string (sa ++ (⟨#[58]⟩ : ByteArray) ++ sb ++ (⟨#[47]⟩ : ByteArray) ++ sc), .bool true]) ∧ Below w.heap.size w w' := by
  have HG := Aside0.mk hg
  have TA := Aside0.mk ta
  have TB := Aside0.mk tb
  have TC := Aside0.mk tc
  clear hg ta tb tc
  have hu26 := Tryd.underlying26
  go_enter Tryd.func9, Tryd.ntmps9
  go_wp2_with fail
  refine (impl_AreLadders.calls a b c _ _ HG.out).mono ?_
  rintro e w1 ⟨rfl, hb1⟩
  have K : Below w.heap.size w w1 ∧ w1.cell? ⟨w.heap.size, 0, none⟩ = some (.int .i64 a) ∧ w1.cell? ⟨w.heap.size, 1, none⟩ = some (.int .i64 b) ∧ w1.cell? ⟨w.heap.size, 2, none⟩ = some (.int .i64 c) :=
    ⟨below_step ((Below.refl _ _).alloc (Nat.le_refl _) _) hb1, cell_keep hb1 ((blk_of (blk_first' w _ _) 0).trans rfl), cell_keep hb1 ((blk_of (blk_first' w _ _) 1).trans rfl), cell_keep hb1 ((blk_of (blk_first' w _ _) 2).trans rfl)⟩
  clear hb1
  have d1 : (9223372036854775807 < sa.size + 1) = False := eq_false (by omega)
  have d2 : (9223372036854775807 < sa.size + 1 + sb.size) = False := eq_false (by omega)
  have d3 : (9223372036854775807 < sa.size + 1 + sb.size + 1) = False := eq_false (by omega)
  have d4 : (9223372036854775807 < sa.size + 1 + sb.size + 1 + sc.size) = False := eq_false (by omega)
  go_upto_region 3 with fail
  go_region_held3 (fun w' => Below w.heap.size w w' ∧ w'.cell? ⟨w.heap.size, 0, none⟩ = some (.int .i64 a) ∧ w'.cell? ⟨w.heap.size, 1, none⟩ = some (.int .i64 b) ∧ w'.cell? ⟨w.heap.size, 2, none⟩ = some (.int .i64 c))
    (first | (refine thr_call (by assumption) ?_; assumption) | (refine thr_drew ?_; assumption) | go_keep)
    (first
      | (go_at_call 25; refine (TA.out _ (And.left (by assumption))).mono ?_; rintro en w2 ⟨rfl, hb2⟩)
      | (go_at_call 25; refine (TB.out _ (And.left (by assumption))).mono ?_; rintro en w2 ⟨rfl, hb2⟩)
      | (go_at_call 25; refine (TC.out _ (And.left (by assumption))).mono ?_; rintro en w2 ⟨rfl, hb2⟩))
  all_goals (go_wp2_with fail; go_ret2; exact ⟨rfl, And.left (by assumption)⟩)

set_option maxRecDepth 100000 in
theorem ltext_no (a b c : Int) (w : World) (hg : impl_AreLadders.f a b c = some false) :
    Calls Tryd.prog 9 #[.agg #[.int .i64 a, .int .i64 b, .int .i64 c]] w fun e w' => e = .returned (.tuple #[.string (⟨#[]⟩ : ByteArray), .bool false]) ∧ Below w.heap.size w w' := by
  have HG := Aside0.mk hg
  clear hg
  have hu26 := Tryd.underlying26
  go_enter Tryd.func9, Tryd.ntmps9
  go_wp2_with fail
  refine (impl_AreLadders.calls a b c _ _ HG.out).mono ?_
  rintro e w1 ⟨rfl, hb1⟩
  have K := below_step ((Below.refl w.heap.size w).alloc (Nat.le_refl _) (.cells #[.int .i64 a, .int .i64 b, .int .i64 c] 26)) hb1
  go_wp2
  go_ret2
  exact ⟨rfl, K⟩

set_option maxHeartbeats 1000000 in
set_option maxRecDepth 100000 in
theorem law_walk (a b c : Int) (s : ByteArray) (o : Bool) (w : World)
    (hs : ∀ w1, Below w.heap.size w w1 → Calls Tryd.prog 7 #[.agg #[.int .i64 a, .int .i64 b, .int .i64 c]] w1 fun e w' => e = .returned (.tuple #[.string s, .bool o]) ∧ Below w1.heap.size w1 w')
    (hi : ∀ w1, Below w.heap.size w w1 → Calls Tryd.prog 9 #[.agg #[.int .i64 a, .int .i64 b, .int .i64 c]] w1 fun e w' => e = .returned (.tuple #[.string s, .bool o]) ∧ Below w1.heap.size w1 w') :
    Calls Tryd.prog 3 #[.agg #[.int .i64 a, .int .i64 b, .int .i64 c]] w fun e w' => e = .returned (.bool true) ∧ Below w.heap.size w w' := by
  have HS := Aside0.mk hs
  have HI := Aside0.mk hi
  clear hs hi
  have hu23 := Tryd.underlying23
  go_enter Tryd.func3, Tryd.ntmps3
  go_wp2_with fail
  refine (laws_toLadders.calls a b c a b c _ rfl).mono ?_
  rintro e w1 ⟨rfl, hb1⟩
  have K : Below w.heap.size w w1 ∧ w1.cell? ⟨w.heap.size, 0, none⟩ = some (.int .i64 a) ∧ w1.cell? ⟨w.heap.size, 1, none⟩ = some (.int .i64 b) ∧ w1.cell? ⟨w.heap.size, 2, none⟩ = some (.int .i64 c) :=
    ⟨below_step ((Below.refl _ _).alloc (Nat.le_refl _) _) hb1, cell_keep hb1 ((blk_of (blk_first' w _ _) 0).trans rfl), cell_keep hb1 ((blk_of (blk_first' w _ _) 1).trans rfl), cell_keep hb1 ((blk_of (blk_first' w _ _) 2).trans rfl)⟩
  clear hb1
  go_wp2_with fail
  refine (HS.out _ K.1).mono ?_
  rintro e w2 ⟨rfl, hb2⟩
  replace K := thr_call hb2 K
  clear hb2
  obtain ⟨KB, K0, K1, K2⟩ := K
  go_wp2_with fail
  refine (laws_toLadders.calls a b c a b c _ rfl).mono ?_
  rintro e w3 ⟨rfl, hb3⟩
  replace KB := below_step KB hb3
  clear hb3 K0 K1 K2
  go_wp2_with fail
  refine (HI.out _ KB).mono ?_
  rintro e w4 ⟨rfl, hb4⟩
  replace KB := below_step KB hb4
  clear hb4
  go_wp2
  go_ret
  exact ⟨rfl, KB⟩
end Go.Proofs.YtpmaapalpecjcaaDoor.LText
