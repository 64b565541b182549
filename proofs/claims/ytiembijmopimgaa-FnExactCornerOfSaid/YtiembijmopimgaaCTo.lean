/- The walk of impl.toCorner. -/
import Derived.Test.YtiembijmopimgaaCFol
import Derived.Deep.RegionHeld3
import Derived.Deep.DeepCutAuto
import Derived.Tactics2
import Derived.WalkSpells
import Derived.StillTactics
import Derived.Laws.Pointers
namespace Go.Proofs.Ytiembijmopimgaa.CTo
open Go.RowKit Go.Proofs.Ytiembijmopimgaa.PFnExactCornerOf Go.Proofs.YtiembijmopimgaaW.PrintWords Go.Proofs.YtiembijmopimgaaW.PrintLast Go.Proofs.YtiembijmopimgaaW.PrintMore Go.Proofs.Ytiembijmopimgaa.CNext Go.Proofs.Ytiembijmopimgaa.CClo Go.Proofs.Ytiembijmopimgaa.CFol
set_option linter.unusedVariables false
set_option linter.unusedSimpArgs false

/-- What impl.toCorner comes to: steps, the beam there, sides, whether there is an end. -/
def toO (k : Nat) (t0 t1 x y : Int) (r u : Bool) : Option (Int × Int × Int × Bool × Bool × ByteArray × Bool) :=
  (impl_IsBeam.f t0 t1 x y r u).bind fun b =>
    if b = true then (impl_inward.f t0 t1 x y r u).bind fun b => (fol k (wrap64 (wrap64 (2 * t0) * t1)) t0 t1 b.1 b.2.1 b.2.2.1 b.2.2.2 ⟨#[]⟩ 0 ⟨#[]⟩).bind fun R => some (R.2.1, R.2.2.1, R.2.2.2.1, R.2.2.2.2.1, R.2.2.2.2.2.1, R.1, R.2.2.2.2.2.2)
    else some (0, 0, 0, false, false, ⟨#[]⟩, false)

theorem around_walk (t0 t1 : Int) (w : World) : Calls Try.prog 33 #[.agg #[.int .i64 t0, .int .i64 t1]] w fun e w' => e = .returned (.int .i64 (wrap64 (wrap64 (2 * t0) * t1))) ∧ Below w.heap.size w w' := by
  go_enter Try.func33, Try.ntmps33
  go_wp2
  go_ret
  exact ⟨rfl, below_alloc (Below.refl _ _) _⟩

def T4 : Bool × List (List Nat × List Nat) := (true, [([], []), ([], []), ([], []), ([2], [2]), ([], []), ([0, 1, 3, 4, 3], [0, 1, 3, 4])])
def B4 : List Nat := [0, 0, 0, 4, 0, 31]
theorem tab4 : rtab .any (opsOf Try.f22 4) = T4 := by kernel_rfl
theorem bits4 : waitsOk T4.2 B4 = true := by kernel_rfl

/-- toCorner's frame beside what the closure captures: the table, the beam, the result. -/
def W3 (w : World) (t0 t1 x y : Int) (r u : Bool) : World := ((w.alloc (.cells #[.int .i64 t0, .int .i64 t1] 28)).alloc (.cells #[.int .i64 x, .int .i64 y, .bool r, .bool u] 30)).alloc (.cells #[.int .i64 0, .int .i64 0, .bool false, .bool false] 30)
theorem W3_size (w : World) (t0 t1 x y : Int) (r u : Bool) : (W3 w t0 t1 x y r u).heap.size = w.heap.size + 3 := by simp [W3]
theorem first' {w : World} {n : Nat} (cs : Array Value) (t : TypeId) (h : w.heap.size = n) : (w.alloc (.cells cs t)).heap[n]? = some (.cells cs t (0, 0)) := by subst h; exact blk_first w cs t
def Fr (w w' : World) (t0 t1 x y : Int) (r u : Bool) (acc : ByteArray) (s ex ey : Int) (er eu f : Bool) : Prop :=
  Cap (W3 w t0 t1 x y r u) w' (w.heap.size + 5) w.heap.size (w.heap.size + 3) (w.heap.size + 4) (w.heap.size + 6) t0 t1 acc s ex ey er eu f
theorem Fr.cap {w w' : World} {t0 t1 x y : Int} {r u : Bool} {acc : ByteArray} {s ex ey : Int} {er eu f : Bool} (h : Fr w w' t0 t1 x y r u acc s ex ey er eu f) : Cap (W3 w t0 t1 x y r u) w' (w.heap.size + 5) w.heap.size (w.heap.size + 3) (w.heap.size + 4) (w.heap.size + 6) t0 t1 acc s ex ey er eu f := h
theorem Fr.b {w w' : World} {t0 t1 x y : Int} {r u : Bool} {acc : ByteArray} {s ex ey : Int} {er eu f : Bool} (h : Fr w w' t0 t1 x y r u acc s ex ey er eu f) : w'.heap[w.heap.size + 1]? = some (.cells #[.int .i64 x, .int .i64 y, .bool r, .bool u] 30 (0, 0)) :=
  blk_below (blk_alloc (first' _ _ (by simp)) _) h.cap.below
theorem Fr.z {w w' : World} {t0 t1 x y : Int} {r u : Bool} {acc : ByteArray} {s ex ey : Int} {er eu f : Bool} (h : Fr w w' t0 t1 x y r u acc s ex ey er eu f) : w'.heap[w.heap.size + 2]? = some (.cells #[.int .i64 0, .int .i64 0, .bool false, .bool false] 30 (0, 0)) :=
  blk_below (first' _ _ (by simp)) h.cap.below
theorem Fr.low {w w' : World} {t0 t1 x y : Int} {r u : Bool} {acc : ByteArray} {s ex ey : Int} {er eu f : Bool} (h : Fr w w' t0 t1 x y r u acc s ex ey er eu f) : Below w.heap.size w w' :=
  below_step (below_alloc (below_alloc (below_alloc (Below.refl _ _) _) _) _) h.cap.below
theorem Fr.call {w W w1 : World} {t0 t1 x y : Int} {r u : Bool} {acc : ByteArray} {s ex ey : Int} {er eu f : Bool} (h : Fr w W t0 t1 x y r u acc s ex ey er eu f) (hb : Below W.heap.size W w1) : Fr w w1 t0 t1 x y r u acc s ex ey er eu f := h.cap.call hb
theorem Fr.drew {w W : World} {t0 t1 x y : Int} {r u : Bool} {acc : ByteArray} {s ex ey : Int} {er eu f : Bool} (h : Fr w W t0 t1 x y r u acc s ex ey er eu f) : Fr w W.drew t0 t1 x y r u acc s ex ey er eu f := h.cap.drew
theorem dif (w : World) (t0 t1 x y : Int) (r u : Bool) : Dif (W3 w t0 t1 x y r u) (w.heap.size + 5) w.heap.size (w.heap.size + 3) (w.heap.size + 4) (w.heap.size + 6) := by
  have := W3_size w t0 t1 x y r u
  constructor <;> omega
theorem fr0 (w : World) (t0 t1 x y : Int) (r u : Bool) : Fr w (((((((w.alloc (.cells #[.int .i64 t0, .int .i64 t1] 28)).alloc (.cells #[.int .i64 x, .int .i64 y, .bool r, .bool u] 30)).alloc (.cells #[.int .i64 0, .int .i64 0, .bool false, .bool false] 30)).alloc (.cells #[.int .i64 0] 3)).alloc (.cells #[.int .i64 0, .int .i64 0, .bool false, .bool false] 30)).alloc (.cells #[.string ⟨#[]⟩] 9)).alloc (.cells #[.bool false] 4)) t0 t1 x y r u ⟨#[]⟩ 0 0 0 false false false := {
    below := below_alloc (below_alloc (below_alloc (below_alloc (Below.refl _ (W3 w t0 t1 x y r u)) _) _) _) _
    b := blk_alloc (first' _ _ (by simp)) _
    t := blk_alloc (blk_alloc (blk_alloc (blk_alloc (blk_alloc (blk_alloc (first' _ _ rfl) _) _) _) _) _) _
    s := blk_alloc (blk_alloc (blk_alloc (first' _ _ (by simp)) _) _) _
    e := blk_alloc (blk_alloc (first' _ _ (by simp)) _) _
    f := first' _ _ (by simp) }


set_option maxHeartbeats 2000000 in
set_option maxRecDepth 100000 in
theorem to_walk (k : Nat) (t0 t1 x y : Int) (r u : Bool) (es ex ey : Int) (er eu ef : Bool) (R : ByteArray) (w : World) (h : toO k t0 t1 x y r u = some (es, ex, ey, er, eu, R, ef)) :
    Calls Try.prog 22 #[.agg #[.int .i64 t0, .int .i64 t1], .agg #[.int .i64 x, .int .i64 y, .bool r, .bool u]] w fun e w' => e = .returned (.tuple #[.int .i64 es, .agg #[.int .i64 ex, .int .i64 ey, .bool er, .bool eu], .string R, .bool ef]) ∧ Below w.heap.size w w' := by
  have H := Aside0.mk h
  clear h
  go_enter Try.func22, Try.ntmps22
  go_wp2_with fail
  have F0 := Aside0.mk (fr0 w t0 t1 x y r u)
  have hh := H.out
  clear H
  unfold toO at hh
  obtain ⟨b, hb0, hh1⟩ := Option.bind_eq_some_iff.mp hh
  have HB0 := Aside0.mk hb0
  have HH := Aside0.mk hh1
  clear hh hb0 hh1
  refine (impl_IsBeam.calls t0 t1 x y r u b _ HB0.out).mono ?_
  rintro e w1 ⟨rfl, hb⟩
  have F1 := Aside0.mk (F0.out.call hb)
  clear hb F0
  cases b
  · have hh := HH.out
    clear HH
    rw [if_neg (by simp)] at hh
    simp only [Option.some.injEq, Prod.mk.injEq] at hh
    obtain ⟨rfl, rfl, rfl, rfl, rfl, rfl, rfl⟩ := hh
    have z0 : w1.cell? ⟨w.heap.size + 1 + 1, 0, none⟩ = some (.int .i64 0) := (blk_cell F1.out.z 0).trans rfl
    have z1 : w1.cell? ⟨w.heap.size + 1 + 1, 1, none⟩ = some (.int .i64 0) := (blk_cell F1.out.z 1).trans rfl
    have z2 : w1.cell? ⟨w.heap.size + 1 + 1, 2, none⟩ = some (.bool false) := (blk_cell F1.out.z 2).trans rfl
    have z3 : w1.cell? ⟨w.heap.size + 1 + 1, 3, none⟩ = some (.bool false) := (blk_cell F1.out.z 3).trans rfl
    have f0 : w1.frozen? ⟨w.heap.size + 1 + 1, 0, none⟩ = false := blk_frozen F1.out.z 0
    have f1 : w1.frozen? ⟨w.heap.size + 1 + 1, 1, none⟩ = false := blk_frozen F1.out.z 1
    have f2 : w1.frozen? ⟨w.heap.size + 1 + 1, 2, none⟩ = false := blk_frozen F1.out.z 2
    have f3 : w1.frozen? ⟨w.heap.size + 1 + 1, 3, none⟩ = false := blk_frozen F1.out.z 3
    go_wp2
    (have Z6 := blk_put (blk_put (blk_put (blk_put ((F1.out.z)) 0 (.int .i64 0) rfl) 1 (.int .i64 0) rfl) 2 (.bool false) rfl) 3 (.bool false) rfl; have L6 : Below w.heap.size w ((((w1).setCell ⟨w.heap.size + 1 + 1, 0, none⟩ (.int .i64 0)).setCell ⟨w.heap.size + 1 + 1, 1, none⟩ (.int .i64 0)).setCell ⟨w.heap.size + 1 + 1, 2, none⟩ (.bool false) |>.setCell ⟨w.heap.size + 1 + 1, 3, none⟩ (.bool false)) := (((((F1.out.low)).setCell (by simp; omega) _).setCell (by simp; omega) _).setCell (by simp; omega) _).setCell (by simp; omega) _; generalize ((((w1).setCell ⟨w.heap.size + 1 + 1, 0, none⟩ (.int .i64 0)).setCell ⟨w.heap.size + 1 + 1, 1, none⟩ (.int .i64 0)).setCell ⟨w.heap.size + 1 + 1, 2, none⟩ (.bool false) |>.setCell ⟨w.heap.size + 1 + 1, 3, none⟩ (.bool false)) = w7 at Z6 L6 ⊢; have k0 : w7.cell? ⟨w.heap.size + 1 + 1, 0, none⟩ = some (.int .i64 0) := (blk_cell Z6 0).trans rfl; have k1 : w7.cell? ⟨w.heap.size + 1 + 1, 1, none⟩ = some (.int .i64 0) := (blk_cell Z6 1).trans rfl; have k2 : w7.cell? ⟨w.heap.size + 1 + 1, 2, none⟩ = some (.bool false) := (blk_cell Z6 2).trans rfl; have k3 : w7.cell? ⟨w.heap.size + 1 + 1, 3, none⟩ = some (.bool false) := (blk_cell Z6 3).trans rfl; refine bodyPost_ret (v := .tuple #[.int .i64 0, .agg #[.int .i64 0, .int .i64 0, .bool false, .bool false], .string ⟨#[]⟩, .bool false]) (by simp [results, Try.results22, go_sem, k0, k1, k2, k3]) rfl ⟨rfl, L6⟩)
  have hh := HH.out
  clear HH
  rw [if_pos rfl] at hh
  obtain ⟨⟨b1, b2, b3, b4⟩, hi0, hh1⟩ := Option.bind_eq_some_iff.mp hh
  obtain ⟨⟨R0, R1, R2, R3, R4, R5, R6⟩, hr0, hh2⟩ := Option.bind_eq_some_iff.mp hh1
  simp only [Option.some.injEq, Prod.mk.injEq] at hh2
  obtain ⟨rfl, rfl, rfl, rfl, rfl, rfl, rfl⟩ := hh2
  have HI := Aside0.mk hi0
  have HR := Aside0.mk hr0
  clear hh hh1 hi0 hr0
  go_upto_region 4 with fail
  have F2 := Aside0.mk F1.out.drew
  clear F1
  refine start_ (n := 6) (S := fun w' => w'.cell? ⟨w.heap.size, 0, none⟩ = some (.int .i64 t0) ∧ w'.cell? ⟨w.heap.size, 1, none⟩ = some (.int .i64 t1) ∧ w'.cell? ⟨w.heap.size + 1, 0, none⟩ = some (.int .i64 x) ∧ w'.cell? ⟨w.heap.size + 1, 1, none⟩ = some (.int .i64 y) ∧ w'.cell? ⟨w.heap.size + 1, 2, none⟩ = some (.bool r) ∧ w'.cell? ⟨w.heap.size + 1, 3, none⟩ = some (.bool u)) (ds := [5]) #[false, false, false, false, false, false] (by kernel_rfl) rfl rfl ⟨(blk_cell F2.out.cap.t 0).trans rfl, (blk_cell F2.out.cap.t 1).trans rfl, (blk_cell F2.out.b 0).trans rfl, (blk_cell F2.out.b 1).trans rfl, (blk_cell F2.out.b 2).trans rfl, (blk_cell F2.out.b 3).trans rfl⟩ (fun hHeld => ?_)
  refine with_tabW tab4 bits4 (fun HT_ HW_ => ?_)
  generalize w1.drew = w2 at F2 hHeld ⊢
  refine take_ (i := 0) (N := some 18) (v := ?_) (a' := ?_) #[true, false, false, false, false, false] rfl rfl (take_ofW HT_.out HW_.out (by kernel_rfl)) (fun _ _ _ h => h) (Or.inl ⟨by rfl, ?_⟩) hHeld ?_ ?_
  rotate_left
  · rintro w' ⟨s0, s1, s2, s3, s4, s5⟩
    go_simp
    with_reducible rfl
  rotate_left
  · simp only [Act.put, List.setIfInBounds_toArray, List.set_cons_zero, List.set_cons_succ, i64_w, i32_w]
    rfl
  refine take_ (i := 1) (N := some 19) (v := ?_) (a' := ?_) #[true, true, false, false, false, false] rfl rfl (take_ofW HT_.out HW_.out (by kernel_rfl)) (fun _ _ _ h => h) (Or.inl ⟨by rfl, ?_⟩) hHeld ?_ ?_
  rotate_left
  · rintro w' ⟨s0, s1, s2, s3, s4, s5⟩
    go_simp
    with_reducible rfl
  rotate_left
  · simp only [Act.put, List.setIfInBounds_toArray, List.set_cons_zero, List.set_cons_succ, i64_w, i32_w]
    rfl
  refine take_ (i := 2) (N := some 20) (v := ?_) (a' := ?_) #[true, true, true, false, false, false] rfl rfl (take_ofW HT_.out HW_.out (by kernel_rfl)) (fun _ _ _ h => h) (Or.inl ⟨by rfl, ?_⟩) hHeld ?_ ?_
  rotate_left
  · rintro w' ⟨s0, s1, s2, s3, s4, s5⟩
    go_simp
    with_reducible rfl
  rotate_left
  · simp only [Act.put, List.setIfInBounds_toArray, List.set_cons_zero, List.set_cons_succ, i64_w, i32_w]
    rfl
  refine pure_ (i := 4) (N := some 22) (v := ?_) (a' := ?_) #[true, true, true, false, true, false] rfl rfl (any_of HT_.out (by kernel_rfl)) (fun _ _ _ h => h) (Or.inl ⟨by rfl, ?_⟩) ?_ ?_
  rotate_left
  · intro w'
    go_simp
    with_reducible rfl
  rotate_left
  · simp only [Act.put, List.setIfInBounds_toArray, List.set_cons_zero, List.set_cons_succ, i64_w, i32_w]
    rfl
  refine one_ (i := 3) (N := some 21) #[true, true, true, true, true, false] rfl rfl (one_of HT_.out (by kernel_rfl)) (by decide) (fun K hK => ?_)
  refine goes_ Try.func33 (by kernel_rfl) rfl #[.agg #[.int .i64 t0, .int .i64 t1]] (by rfl) rfl rfl (by (try simp only [List.map_toArray, List.map_cons, List.map_nil]); first | done | rfl | (simp only [List.length_drop, List.length_take]; rfl)) ?_
  refine (around_walk t0 t1 _).mono ?_
  rintro e w3 ⟨rfl, hb⟩
  refine ⟨_, rfl, ?_⟩
  have F3 := Aside0.mk (F2.out.call hb)
  clear hb F2
  refine hK.out _ _ ⟨(blk_cell F3.out.cap.t 0).trans rfl, (blk_cell F3.out.cap.t 1).trans rfl, (blk_cell F3.out.b 0).trans rfl, (blk_cell F3.out.b 1).trans rfl, (blk_cell F3.out.b 2).trans rfl, (blk_cell F3.out.b 3).trans rfl⟩ (fun hHeld => ?_)
  clear hK K
  refine norm_ (a' := ?_) ?_ ?_
  rotate_left
  · show Act.put _ (some 21) _ = _
    simp only [Act.put, List.setIfInBounds_toArray, List.set_cons_zero, List.set_cons_succ, i64_w, i32_w]
    rfl
  refine last_ (i := 5) (N := some 23) #[true, true, true, true, true, true] rfl rfl (one_of HT_.out (by kernel_rfl)) (by decide) (fun K hK => ?_)
  refine goes_ Try.func18 (by kernel_rfl) rfl #[.agg #[.int .i64 t0, .int .i64 t1], .agg #[.int .i64 x, .int .i64 y, .bool r, .bool u], .int .i64 (wrap64 (wrap64 (2 * t0) * t1)), .func (.func 34) #[] #[.pointer (some ⟨w.heap.size + 5, 0, none⟩), .pointer (some ⟨w.heap.size, 0, none⟩), .pointer (some ⟨w.heap.size + 3, 0, none⟩), .pointer (some ⟨w.heap.size + 4, 0, none⟩), .pointer (some ⟨w.heap.size + 6, 0, none⟩)]] (by rfl) rfl rfl (by (try simp only [List.map_toArray, List.map_cons, List.map_nil]); first | done | rfl | (simp only [List.length_drop, List.length_take]; rfl)) ?_
  refine (follow_walk k (W3 w t0 t1 x y r u) _ (wrap64 (wrap64 (2 * t0) * t1)) t0 t1 x y b1 b2 r u b3 b4 ⟨#[]⟩ R0 (w.heap.size + 5) w.heap.size (w.heap.size + 3) (w.heap.size + 4) (w.heap.size + 6) R1 R2 R3 R4 R5 R6 HI.out HR.out (dif w t0 t1 x y r u) F3.out.cap).mono ?_
  rintro e w4 ⟨rfl, hc⟩
  refine ⟨_, rfl, ?_⟩
  have F4 : Aside0 (Fr w w4 t0 t1 x y r u R0 R1 R2 R3 R4 R5 R6) := ⟨hc⟩
  clear hc F3
  refine hK.out _ _ ?_
  clear hK K
  refine norm_ (a' := ?_) ?_ ?_
  rotate_left
  · show Act.put _ (some 23) _ = _
    simp only [Act.put, List.setIfInBounds_toArray, List.set_cons_zero, List.set_cons_succ, i64_w, i32_w]
    rfl
  refine done_ (done_of HT_.out (by kernel_rfl)) ?_
  clear HT_ HW_
  clear hHeld
  go_upto_region 5 with fail
  have s0 : w4.cell? ⟨w.heap.size + 1 + 1 + 1, 0, none⟩ = some (.int .i64 R1) := (blk_cell F4.out.cap.s 0).trans rfl
  have e0 : w4.cell? ⟨w.heap.size + 1 + 1 + 1 + 1, 0, none⟩ = some (.int .i64 R2) := (blk_cell F4.out.cap.e 0).trans rfl
  have e1 : w4.cell? ⟨w.heap.size + 1 + 1 + 1 + 1, 1, none⟩ = some (.int .i64 R3) := (blk_cell F4.out.cap.e 1).trans rfl
  have e2 : w4.cell? ⟨w.heap.size + 1 + 1 + 1 + 1, 2, none⟩ = some (.bool R4) := (blk_cell F4.out.cap.e 2).trans rfl
  have e3 : w4.cell? ⟨w.heap.size + 1 + 1 + 1 + 1, 3, none⟩ = some (.bool R5) := (blk_cell F4.out.cap.e 3).trans rfl
  have o0 : w4.cell? ⟨w.heap.size + 1 + 1 + 1 + 1 + 1, 0, none⟩ = some (.string R0) := (blk_cell F4.out.cap.b 0).trans rfl
  have d0 : w4.cell? ⟨w.heap.size + 1 + 1 + 1 + 1 + 1 + 1, 0, none⟩ = some (.bool R6) := (blk_cell F4.out.cap.f 0).trans rfl
  have z0 : w4.cell? ⟨w.heap.size + 1 + 1, 0, none⟩ = some (.int .i64 0) := (blk_cell F4.out.z 0).trans rfl
  have z1 : w4.cell? ⟨w.heap.size + 1 + 1, 1, none⟩ = some (.int .i64 0) := (blk_cell F4.out.z 1).trans rfl
  have z2 : w4.cell? ⟨w.heap.size + 1 + 1, 2, none⟩ = some (.bool false) := (blk_cell F4.out.z 2).trans rfl
  have z3 : w4.cell? ⟨w.heap.size + 1 + 1, 3, none⟩ = some (.bool false) := (blk_cell F4.out.z 3).trans rfl
  have f0 : w4.frozen? ⟨w.heap.size + 1 + 1, 0, none⟩ = false := blk_frozen F4.out.z 0
  have f1 : w4.frozen? ⟨w.heap.size + 1 + 1, 1, none⟩ = false := blk_frozen F4.out.z 1
  have f2 : w4.frozen? ⟨w.heap.size + 1 + 1, 2, none⟩ = false := blk_frozen F4.out.z 2
  have f3 : w4.frozen? ⟨w.heap.size + 1 + 1, 3, none⟩ = false := blk_frozen F4.out.z 3
  have Z5 := Aside0.mk F4.out.z
  have L5 := Aside0.mk F4.out.low
  clear F4 HI HR HB0
  go_region_held3 (fun w' => w'.cell? ⟨w.heap.size + 1 + 1 + 1, 0, none⟩ = some (.int .i64 R1) ∧ w'.cell? ⟨w.heap.size + 1 + 1 + 1 + 1, 0, none⟩ = some (.int .i64 R2) ∧ w'.cell? ⟨w.heap.size + 1 + 1 + 1 + 1, 1, none⟩ = some (.int .i64 R3) ∧ w'.cell? ⟨w.heap.size + 1 + 1 + 1 + 1, 2, none⟩ = some (.bool R4) ∧ w'.cell? ⟨w.heap.size + 1 + 1 + 1 + 1, 3, none⟩ = some (.bool R5) ∧ w'.cell? ⟨w.heap.size + 1 + 1 + 1 + 1 + 1, 0, none⟩ = some (.string R0) ∧ w'.cell? ⟨w.heap.size + 1 + 1 + 1 + 1 + 1 + 1, 0, none⟩ = some (.bool R6))
    (first | go_keep)
    (first | fail)
  rename_i hHeld
  clear hHeld s0 e0 e1 e2 e3 o0 d0 z0 z1 z2 z3 f0 f1 f2 f3
  have Z6 := Aside0.mk (blk_put (blk_put (blk_put (blk_put Z5.out 0 (.int .i64 R2) rfl) 1 (.int .i64 R3) rfl) 2 (.bool R4) rfl) 3 (.bool R5) rfl)
  have L6 : Aside0 (Below w.heap.size w ((((w4.setCell ⟨w.heap.size + 1 + 1, 0, none⟩ (.int .i64 R2)).setCell ⟨w.heap.size + 1 + 1, 1, none⟩ (.int .i64 R3)).setCell ⟨w.heap.size + 1 + 1, 2, none⟩ (.bool R4)).setCell ⟨w.heap.size + 1 + 1, 3, none⟩ (.bool R5))) := ⟨(((L5.out.setCell (by simp; omega) _).setCell (by simp; omega) _).setCell (by simp; omega) _).setCell (by simp; omega) _⟩
  clear Z5 L5
  generalize ((((w4.setCell ⟨w.heap.size + 1 + 1, 0, none⟩ (.int .i64 R2)).setCell ⟨w.heap.size + 1 + 1, 1, none⟩ (.int .i64 R3)).setCell ⟨w.heap.size + 1 + 1, 2, none⟩ (.bool R4)).setCell ⟨w.heap.size + 1 + 1, 3, none⟩ (.bool R5)) = w6 at Z6 L6 ⊢
  have Z7 := Aside0.mk (show w6.drew.heap[w.heap.size + 2]? = some (.cells #[.int .i64 R2, .int .i64 R3, .bool R4, .bool R5] 30 (0, 0)) from Z6.out)
  have L7 := Aside0.mk (below_drew1 L6.out)
  clear Z6 L6
  generalize w6.drew = w7 at Z7 L7 ⊢
  have k0 : w7.cell? ⟨w.heap.size + 1 + 1, 0, none⟩ = some (.int .i64 R2) := (blk_cell Z7.out 0).trans rfl
  have k1 : w7.cell? ⟨w.heap.size + 1 + 1, 1, none⟩ = some (.int .i64 R3) := (blk_cell Z7.out 1).trans rfl
  have k2 : w7.cell? ⟨w.heap.size + 1 + 1, 2, none⟩ = some (.bool R4) := (blk_cell Z7.out 2).trans rfl
  have k3 : w7.cell? ⟨w.heap.size + 1 + 1, 3, none⟩ = some (.bool R5) := (blk_cell Z7.out 3).trans rfl
  go_wp2
  refine bodyPost_ret (v := .tuple #[.int .i64 R1, .agg #[.int .i64 R2, .int .i64 R3, .bool R4, .bool R5], .string R0, .bool R6]) (by simp [results, Try.results22, go_sem, k0, k1, k2, k3]) rfl ⟨rfl, L7.out⟩

/-- The walk of impl.StepsToCorner. -/
theorem steps_walk (k : Nat) (t0 t1 x y : Int) (r u : Bool) (es ex ey : Int) (er eu ef : Bool) (R : ByteArray) (w : World) (h : toO k t0 t1 x y r u = some (es, ex, ey, er, eu, R, ef)) :
    Calls Try.prog 11 #[.agg #[.int .i64 t0, .int .i64 t1], .agg #[.int .i64 x, .int .i64 y, .bool r, .bool u]] w fun e w' => e = .returned (.tuple #[.int .i64 es, .bool ef]) ∧ Below w.heap.size w w' := by
  have H := Aside0.mk h
  clear h
  go_enter Try.func11, Try.ntmps11
  go_wp2_with fail
  have L0 : Aside0 (Below w.heap.size w ((w.alloc (.cells #[.int .i64 t0, .int .i64 t1] 28)).alloc (.cells #[.int .i64 x, .int .i64 y, .bool r, .bool u] 30))) := ⟨below_alloc (below_alloc (Below.refl _ _) _) _⟩
  refine (to_walk k t0 t1 x y r u es ex ey er eu ef R _ H.out).mono ?_
  rintro e w1 ⟨rfl, hb⟩
  have L1 := Aside0.mk (below_step L0.out hb)
  clear hb L0
  go_wp2
  refine bodyPost_ret (v := .tuple #[.int .i64 es, .bool ef]) (by simp [results, Try.results11, go_sem]) rfl ⟨rfl, below_alloc L1.out _⟩

/-- The walk of impl.CornerOf. -/
theorem corner_walk (k : Nat) (t0 t1 x y : Int) (r u : Bool) (es ex ey : Int) (er eu ef : Bool) (R : ByteArray) (w : World) (h : toO k t0 t1 x y r u = some (es, ex, ey, er, eu, R, ef)) :
    Calls Try.prog 13 #[.agg #[.int .i64 t0, .int .i64 t1], .agg #[.int .i64 x, .int .i64 y, .bool r, .bool u]] w fun e w' => e = .returned (.tuple #[.int .i64 ex, .int .i64 ey, .bool ef]) ∧ Below w.heap.size w w' := by
  have H := Aside0.mk h
  clear h
  go_enter Try.func13, Try.ntmps13
  go_wp2_with fail
  have L0 : Aside0 (Below w.heap.size w ((w.alloc (.cells #[.int .i64 t0, .int .i64 t1] 28)).alloc (.cells #[.int .i64 x, .int .i64 y, .bool r, .bool u] 30))) := ⟨below_alloc (below_alloc (Below.refl _ _) _) _⟩
  refine (to_walk k t0 t1 x y r u es ex ey er eu ef R _ H.out).mono ?_
  rintro e w1 ⟨rfl, hb⟩
  have L1 := Aside0.mk (below_step L0.out hb)
  clear hb L0
  go_upto_region 2 with fail
  have E2 := Aside0.mk (blk_first w1 #[.int .i64 ex, .int .i64 ey, .bool er, .bool eu] 30)
  have L2 := Aside0.mk (below_alloc L1.out (.cells #[.int .i64 ex, .int .i64 ey, .bool er, .bool eu] 30))
  clear L1
  generalize (w1.alloc (.cells #[.int .i64 ex, .int .i64 ey, .bool er, .bool eu] 30)) = w2 at E2 L2 ⊢
  have e0 : w2.cell? ⟨w1.heap.size, 0, none⟩ = some (.int .i64 ex) := (blk_cell E2.out 0).trans rfl
  have e1 : w2.cell? ⟨w1.heap.size, 1, none⟩ = some (.int .i64 ey) := (blk_cell E2.out 1).trans rfl
  go_region_held3 (fun w' => w'.cell? ⟨w1.heap.size, 0, none⟩ = some (.int .i64 ex) ∧ w'.cell? ⟨w1.heap.size, 1, none⟩ = some (.int .i64 ey))
    (first | go_keep)
    (first | fail)
  go_wp2
  refine bodyPost_ret (v := .tuple #[.int .i64 ex, .int .i64 ey, .bool ef]) (by simp [results, Try.results13, go_sem]) rfl ⟨rfl, below_drew1 L2.out⟩
end Go.Proofs.Ytiembijmopimgaa.CTo
