/- The walk of the closure of impl.toCorner. -/
import Derived.Test.YtiembijmopimgaaCNext
import Derived.Deep.RegionHeld3
import Derived.Deep.DeepCutAuto
import Derived.Tactics2
import Derived.WalkSpells
import Derived.StillTactics
import Derived.Laws.Pointers
namespace Go.Proofs.Ytiembijmopimgaa.CClo
open Go.RowKit Go.Proofs.Ytiembijmopimgaa.PFnExactCornerOf Go.Proofs.YtiembijmopimgaaW.PrintWords Go.Proofs.Ytiembijmopimgaa.CNext
set_option linter.unusedVariables false
set_option linter.unusedSimpArgs false

/-- What the closure reads and writes: the sides, the table, the steps, the end, and whether there is one. -/
structure Cap (w0 w : World) (gb gt gs ge gf : Nat) (t0 t1 : Int) (acc : ByteArray) (s x y : Int) (r u f : Bool) : Prop where
  below : Below w0.heap.size w0 w
  b : w.heap[gb]? = some (.cells #[.string acc] 9 (0, 0))
  t : w.heap[gt]? = some (.cells #[.int .i64 t0, .int .i64 t1] 28 (0, 0))
  s : w.heap[gs]? = some (.cells #[.int .i64 s] 3 (0, 0))
  e : w.heap[ge]? = some (.cells #[.int .i64 x, .int .i64 y, .bool r, .bool u] 30 (0, 0))
  f : w.heap[gf]? = some (.cells #[.bool f] 4 (0, 0))

structure Dif (w0 : World) (gb gt gs ge gf : Nat) : Prop where
  lb : w0.heap.size ≤ gb
  ls : w0.heap.size ≤ gs
  le : w0.heap.size ≤ ge
  lf : w0.heap.size ≤ gf
  bt : gb ≠ gt
  bs : gb ≠ gs
  be : gb ≠ ge
  bf : gb ≠ gf
  ts : gt ≠ gs
  te : gt ≠ ge
  tf : gt ≠ gf
  se : gs ≠ ge
  sf : gs ≠ gf
  ef : ge ≠ gf

theorem Cap.alloc {w0 w : World} {gb gt gs ge gf : Nat} {t0 t1 : Int} {acc : ByteArray} {s x y : Int} {r u f : Bool} (h : Cap w0 w gb gt gs ge gf t0 t1 acc s x y r u f) (o : Obj) : Cap w0 (w.alloc o) gb gt gs ge gf t0 t1 acc s x y r u f :=
  ⟨below_alloc h.below _, blk_alloc h.b _, blk_alloc h.t _, blk_alloc h.s _, blk_alloc h.e _, blk_alloc h.f _⟩
theorem Cap.call {w0 w w1 : World} {gb gt gs ge gf : Nat} {t0 t1 : Int} {acc : ByteArray} {s x y : Int} {r u f : Bool} (h : Cap w0 w gb gt gs ge gf t0 t1 acc s x y r u f) (hb : Below w.heap.size w w1) : Cap w0 w1 gb gt gs ge gf t0 t1 acc s x y r u f :=
  ⟨below_step h.below hb, blk_below h.b hb, blk_below h.t hb, blk_below h.s hb, blk_below h.e hb, blk_below h.f hb⟩
theorem Cap.other {w0 w : World} {gb gt gs ge gf : Nat} {t0 t1 : Int} {acc : ByteArray} {s x y : Int} {r u f : Bool} (h : Cap w0 w gb gt gs ge gf t0 t1 acc s x y r u f) (g i : Nat) (v : Value) (hg : w0.heap.size ≤ g) (h1 : gb ≠ g) (h2 : gt ≠ g) (h3 : gs ≠ g) (h4 : ge ≠ g) (h5 : gf ≠ g) : Cap w0 (w.setCell ⟨g, i, none⟩ v) gb gt gs ge gf t0 t1 acc s x y r u f :=
  ⟨h.below.setCell hg _, by rw [Below.heap_setCell _ _ _ _ h1]; exact h.b, by rw [Below.heap_setCell _ _ _ _ h2]; exact h.t, by rw [Below.heap_setCell _ _ _ _ h3]; exact h.s, by rw [Below.heap_setCell _ _ _ _ h4]; exact h.e, by rw [Below.heap_setCell _ _ _ _ h5]; exact h.f⟩

theorem drew_heap (w : World) : w.drew.heap = w.heap := rfl
theorem Cap.drew {w0 w : World} {gb gt gs ge gf : Nat} {t0 t1 : Int} {acc : ByteArray} {s x y : Int} {r u f : Bool} (h : Cap w0 w gb gt gs ge gf t0 t1 acc s x y r u f) : Cap w0 w.drew gb gt gs ge gf t0 t1 acc s x y r u f :=
  ⟨below_drew1 h.below, h.b, h.t, h.s, h.e, h.f⟩
theorem Cap.ended {w0 w : World} {gb gt gs ge gf : Nat} {t0 t1 : Int} {acc : ByteArray} {s0 x0 y0 : Int} {r0 u0 f0 : Bool} (h : Cap w0 w gb gt gs ge gf t0 t1 acc s0 x0 y0 r0 u0 f0) (D : Dif w0 gb gt gs ge gf) (m x y : Int) (r u : Bool) : Cap w0 ((((((w.setCell ⟨gs, 0, none⟩ (.int .i64 m)).setCell ⟨ge, 0, none⟩ (.int .i64 x)).setCell ⟨ge, 1, none⟩ (.int .i64 y)).setCell ⟨ge, 2, none⟩ (.bool r)).setCell ⟨ge, 3, none⟩ (.bool u)).setCell ⟨gf, 0, none⟩ (.bool true)) gb gt gs ge gf t0 t1 acc m x y r u true := by
  refine ⟨(((((h.below.setCell D.ls _).setCell D.le _).setCell D.le _).setCell D.le _).setCell D.le _).setCell D.lf _, ?_, ?_, ?_, ?_, ?_⟩
  · rw [Below.heap_setCell _ _ _ _ D.bf, Below.heap_setCell _ _ _ _ D.be, Below.heap_setCell _ _ _ _ D.be, Below.heap_setCell _ _ _ _ D.be, Below.heap_setCell _ _ _ _ D.be, Below.heap_setCell _ _ _ _ D.bs]; exact h.b
  · rw [Below.heap_setCell _ _ _ _ D.tf, Below.heap_setCell _ _ _ _ D.te, Below.heap_setCell _ _ _ _ D.te, Below.heap_setCell _ _ _ _ D.te, Below.heap_setCell _ _ _ _ D.te, Below.heap_setCell _ _ _ _ D.ts]; exact h.t
  · rw [Below.heap_setCell _ _ _ _ D.sf, Below.heap_setCell _ _ _ _ D.se, Below.heap_setCell _ _ _ _ D.se, Below.heap_setCell _ _ _ _ D.se, Below.heap_setCell _ _ _ _ D.se]; exact blk_put h.s 0 _ rfl
  · rw [Below.heap_setCell _ _ _ _ D.ef]
    exact blk_put (blk_put (blk_put (blk_put (by rw [Below.heap_setCell _ _ _ _ D.se.symm]; exact h.e) 0 _ rfl) 1 _ rfl) 2 _ rfl) 3 _ rfl
  · exact blk_put (by rw [Below.heap_setCell _ _ _ _ D.ef.symm, Below.heap_setCell _ _ _ _ D.ef.symm, Below.heap_setCell _ _ _ _ D.ef.symm, Below.heap_setCell _ _ _ _ D.ef.symm, Below.heap_setCell _ _ _ _ D.sf.symm]; exact h.f) 0 _ rfl
theorem six_kept (w : World) {gs ge gf : Nat} (m x y : Int) (r u : Bool) {k : Nat} (h1 : k ≠ gs) (h2 : k ≠ ge) (h3 : k ≠ gf) : ((((((w.setCell ⟨gs, 0, none⟩ (.int .i64 m)).setCell ⟨ge, 0, none⟩ (.int .i64 x)).setCell ⟨ge, 1, none⟩ (.int .i64 y)).setCell ⟨ge, 2, none⟩ (.bool r)).setCell ⟨ge, 3, none⟩ (.bool u)).setCell ⟨gf, 0, none⟩ (.bool true)).drew.heap[k]? = w.heap[k]? := by
  rw [drew_heap]
  rw [Below.heap_setCell _ _ _ _ h3, Below.heap_setCell _ _ _ _ h2, Below.heap_setCell _ _ _ _ h2, Below.heap_setCell _ _ _ _ h2, Below.heap_setCell _ _ _ _ h2, Below.heap_setCell _ _ _ _ h1]
theorem six_size (w : World) {gs ge gf : Nat} (m x y : Int) (r u : Bool) : w.heap.size ≤ ((((((w.setCell ⟨gs, 0, none⟩ (.int .i64 m)).setCell ⟨ge, 0, none⟩ (.int .i64 x)).setCell ⟨ge, 1, none⟩ (.int .i64 y)).setCell ⟨ge, 2, none⟩ (.bool r)).setCell ⟨ge, 3, none⟩ (.bool u)).setCell ⟨gf, 0, none⟩ (.bool true)).drew.heap.size := by
  rw [drew_heap]
  simp [World.setCell]

/-- What the closure does: at a corner behind a step it tells so; else it only adds the side. -/
def CloP (w0 w w' : World) (e : Ending) (gb gt gs ge gf : Nat) (t0 t1 : Int) (acc : ByteArray) (m x y : Int) (r u : Bool) (s0 x0 y0 : Int) (r0 u0 c : Bool) : Prop :=
  ((0 < m ∧ c = true → e = .returned (.bool true) ∧ Cap w0 w' gb gt gs ge gf t0 t1 acc m x y r u true) ∧ (¬ (0 < m ∧ c = true) → e = .returned (.bool false) ∧ Cap w0 w' gb gt gs ge gf t0 t1 acc s0 x0 y0 r0 u0 false)) ∧ w.heap.size ≤ w'.heap.size ∧ ∀ k, k ≠ gb → k ≠ gs → k ≠ ge → k ≠ gf → k < w.heap.size → w'.heap[k]? = w.heap[k]?

set_option maxHeartbeats 1000000 in
set_option maxRecDepth 100000 in
theorem clo (w0 w : World) (m x y : Int) (r u : Bool) (sd acc : ByteArray) (gb gt gs ge gf : Nat) (t0 t1 s0 x0 y0 : Int) (r0 u0 : Bool) (c : Bool) (hsz : acc.size + sd.size ≤ 9223372036854775807) (hD : Dif w0 gb gt gs ge gf) (hC : Cap w0 w gb gt gs ge gf t0 t1 acc s0 x0 y0 r0 u0 false) (hc : impl_isCorner.f t0 t1 x y r u = some c) :
    Calls Try.prog 34 #[.int .i64 m, .agg #[.int .i64 x, .int .i64 y, .bool r, .bool u], .string sd, .pointer (some ⟨gb, 0, none⟩), .pointer (some ⟨gt, 0, none⟩), .pointer (some ⟨gs, 0, none⟩), .pointer (some ⟨ge, 0, none⟩), .pointer (some ⟨gf, 0, none⟩)] w fun e w' => CloP w0 w w' e gb gt gs ge gf t0 t1 (acc ++ sd) m x y r u s0 x0 y0 r0 u0 c := by
  have C := Aside0.mk hC
  have D := Aside0.mk hD
  have HC := Aside0.mk hc
  clear hC hD hc
  have c0 : w.cell? ⟨gb, 0, none⟩ = some (.string acc) := (blk_cell C.out.b 0).trans rfl
  have f0 : w.frozen? ⟨gb, 0, none⟩ = false := blk_frozen C.out.b 0
  have l0 : gb < w.heap.size := blk_lt C.out.b
  go_enter Try.func34, Try.ntmps34
  go_upto_region 2 with fail
  have C1 : Aside0 (Cap w0 ((w.setCell ⟨gb, 0, none⟩ (.string (acc ++ sd))).alloc (.cells #[.int .i64 x, .int .i64 y, .bool r, .bool u] 30)) gb gt gs ge gf t0 t1 (acc ++ sd) s0 x0 y0 r0 u0 false) := ⟨Cap.alloc ⟨C.out.below.setCell D.out.lb _, blk_put C.out.b 0 _ rfl, by rw [Below.heap_setCell _ _ _ _ D.out.bt.symm]; exact C.out.t, by rw [Below.heap_setCell _ _ _ _ D.out.bs.symm]; exact C.out.s, by rw [Below.heap_setCell _ _ _ _ D.out.be.symm]; exact C.out.e, by rw [Below.heap_setCell _ _ _ _ D.out.bf.symm]; exact C.out.f⟩ _⟩
  have B1 : Aside0 (((w.setCell ⟨gb, 0, none⟩ (.string (acc ++ sd))).alloc (.cells #[.int .i64 x, .int .i64 y, .bool r, .bool u] 30)).heap[w.heap.size]? = some (.cells #[.int .i64 x, .int .i64 y, .bool r, .bool u] 30 (0, 0))) := ⟨by
    have := blk_first (w.setCell ⟨gb, 0, none⟩ (.string (acc ++ sd))) #[.int .i64 x, .int .i64 y, .bool r, .bool u] 30
    simpa using this⟩
  have K1 : Aside0 (∀ k, k ≠ gb → k < w.heap.size → ((w.setCell ⟨gb, 0, none⟩ (.string (acc ++ sd))).alloc (.cells #[.int .i64 x, .int .i64 y, .bool r, .bool u] 30)).heap[k]? = w.heap[k]?) := ⟨fun k h1 h2 => by rw [Below.heap_alloc _ _ _ (by simpa [World.setCell] using h2), Below.heap_setCell _ _ _ _ h1]⟩
  have N : Aside0 (gs ≠ w.heap.size ∧ ge ≠ w.heap.size ∧ gf ≠ w.heap.size) := ⟨Nat.ne_of_lt (blk_lt C.out.s), Nat.ne_of_lt (blk_lt C.out.e), Nat.ne_of_lt (blk_lt C.out.f)⟩
  clear c0 f0 l0
  generalize ((w.setCell ⟨gb, 0, none⟩ (.string (acc ++ sd))).alloc (.cells #[.int .i64 x, .int .i64 y, .bool r, .bool u] 30)) = w1 at C1 B1 K1 ⊢
  have a0 : w1.cell? ⟨gt, 0, none⟩ = some (.int .i64 t0) := (blk_cell C1.out.t 0).trans rfl
  have a1 : w1.cell? ⟨gt, 1, none⟩ = some (.int .i64 t1) := (blk_cell C1.out.t 1).trans rfl
  have q0 : w1.cell? ⟨w.heap.size, 0, none⟩ = some (.int .i64 x) := (blk_cell B1.out 0).trans rfl
  have q1 : w1.cell? ⟨w.heap.size, 1, none⟩ = some (.int .i64 y) := (blk_cell B1.out 1).trans rfl
  have q2 : w1.cell? ⟨w.heap.size, 2, none⟩ = some (.bool r) := (blk_cell B1.out 2).trans rfl
  have q3 : w1.cell? ⟨w.heap.size, 3, none⟩ = some (.bool u) := (blk_cell B1.out 3).trans rfl
  have z : w1.cell? ⟨gf, 0, none⟩ = some (.bool false) := (blk_cell C1.out.f 0).trans rfl
  by_cases hm : 0 < m
  · have d : decide (0 < m) = true := by simpa using hm
    have HM := Aside0.mk hm
    clear hm
    go_wp2_with fail
    refine (impl_isCorner.calls t0 t1 x y r u c _ HC.out).mono ?_
    rintro e w2 ⟨rfl, hb⟩
    have C2 := Aside0.mk (C1.out.call hb)
    have B2 := Aside0.mk (blk_below B1.out hb)
    have K2 : Aside0 (w.heap.size ≤ w2.heap.size ∧ ∀ k, k ≠ gb → k < w.heap.size → w2.heap[k]? = w.heap[k]?) := ⟨Nat.le_trans (Nat.le_of_lt (blk_lt B1.out)) hb.size, fun k h1 h2 => (hb.block k (by have := blk_lt B1.out; omega)).trans (K1.out k h1 h2)⟩
    clear hb C1 B1 K1 a0 a1 q0 q1 q2 q3 z
    have z : w2.cell? ⟨gf, 0, none⟩ = some (.bool false) := (blk_cell C2.out.f 0).trans rfl
    have q0 : w2.cell? ⟨w.heap.size, 0, none⟩ = some (.int .i64 x) := (blk_cell B2.out 0).trans rfl
    have q1 : w2.cell? ⟨w.heap.size, 1, none⟩ = some (.int .i64 y) := (blk_cell B2.out 1).trans rfl
    have q2 : w2.cell? ⟨w.heap.size, 2, none⟩ = some (.bool r) := (blk_cell B2.out 2).trans rfl
    have q3 : w2.cell? ⟨w.heap.size, 3, none⟩ = some (.bool u) := (blk_cell B2.out 3).trans rfl
    cases c
    · go_wp2
      go_ret
      exact ⟨⟨fun h => absurd h.2 (by simp), fun _ => ⟨rfl, C2.out⟩⟩, K2.out.1, fun k h1 _ _ _ h2 => K2.out.2 k h1 h2⟩
    · go_upto_region 3 with fail
      have se0 : w2.cell? ⟨gs, 0, none⟩ = some (.int .i64 s0) := (blk_cell C2.out.s 0).trans rfl
      have e0 : w2.cell? ⟨ge, 0, none⟩ = some (.int .i64 x0) := (blk_cell C2.out.e 0).trans rfl
      have e1 : w2.cell? ⟨ge, 1, none⟩ = some (.int .i64 y0) := (blk_cell C2.out.e 1).trans rfl
      have e2 : w2.cell? ⟨ge, 2, none⟩ = some (.bool r0) := (blk_cell C2.out.e 2).trans rfl
      have e3 : w2.cell? ⟨ge, 3, none⟩ = some (.bool u0) := (blk_cell C2.out.e 3).trans rfl
      have sf : w2.frozen? ⟨gs, 0, none⟩ = false := blk_frozen C2.out.s 0
      have f0 : w2.frozen? ⟨ge, 0, none⟩ = false := blk_frozen C2.out.e 0
      have f1 : w2.frozen? ⟨ge, 1, none⟩ = false := blk_frozen C2.out.e 1
      have f2 : w2.frozen? ⟨ge, 2, none⟩ = false := blk_frozen C2.out.e 2
      have f3 : w2.frozen? ⟨ge, 3, none⟩ = false := blk_frozen C2.out.e 3
      have zf : w2.frozen? ⟨gf, 0, none⟩ = false := blk_frozen C2.out.f 0
      have n1 := D.out.se
      have n2 := D.out.sf
      have n3 := D.out.ef
      have n4 := N.out.1
      have n5 := N.out.2.1
      have n6 := N.out.2.2
      go_region_held3 (fun w' => w'.cell? ⟨w.heap.size, 0, none⟩ = some (.int .i64 x) ∧ w'.cell? ⟨w.heap.size, 1, none⟩ = some (.int .i64 y) ∧ w'.cell? ⟨w.heap.size, 2, none⟩ = some (.bool r) ∧ w'.cell? ⟨w.heap.size, 3, none⟩ = some (.bool u))
        (first | go_keep)
        (first | fail)
      have Z6 := Aside0.mk (Nat.le_trans K2.out.1 (six_size w2 (gs := gs) (ge := ge) (gf := gf) m x y r u))
      have CC := Aside0.mk (C2.out.ended D.out m x y r u).drew
      have KK : Aside0 (∀ k, k ≠ gb → k ≠ gs → k ≠ ge → k ≠ gf → k < w.heap.size → ((((((w2.setCell ⟨gs, 0, none⟩ (.int .i64 m)).setCell ⟨ge, 0, none⟩ (.int .i64 x)).setCell ⟨ge, 1, none⟩ (.int .i64 y)).setCell ⟨ge, 2, none⟩ (.bool r)).setCell ⟨ge, 3, none⟩ (.bool u)).setCell ⟨gf, 0, none⟩ (.bool true)).drew.heap[k]? = w.heap[k]?) := ⟨fun k h1 h2 h3 h4 h5 => (six_kept w2 m x y r u h2 h3 h4).trans (K2.out.2 k h1 h5)⟩
      rename_i hHeld
      clear hHeld q0 q1 q2 q3 z se0 e0 e1 e2 e3 sf f0 f1 f2 f3 zf n1 n2 n3 n4 n5 n6
      generalize ((((((w2.setCell ⟨gs, 0, none⟩ (.int .i64 m)).setCell ⟨ge, 0, none⟩ (.int .i64 x)).setCell ⟨ge, 1, none⟩ (.int .i64 y)).setCell ⟨ge, 2, none⟩ (.bool r)).setCell ⟨ge, 3, none⟩ (.bool u)).setCell ⟨gf, 0, none⟩ (.bool true)).drew = w7 at Z6 KK CC ⊢
      have z : w7.cell? ⟨gf, 0, none⟩ = some (.bool true) := (blk_cell CC.out.f 0).trans rfl
      go_wp2
      go_ret
      exact ⟨⟨fun _ => ⟨rfl, CC.out⟩, fun h => absurd ⟨HM.out, rfl⟩ h⟩, Z6.out, KK.out⟩
  · have d : decide (0 < m) = false := by simpa using hm
    have HM := Aside0.mk hm
    clear hm
    go_wp2
    go_ret
    exact ⟨⟨fun h => absurd h.1 (by have := HM.out; omega), fun _ => ⟨rfl, C1.out⟩⟩, Nat.le_of_lt (blk_lt B1.out), fun k h1 _ _ _ h2 => K1.out k h1 h2⟩
end Go.Proofs.Ytiembijmopimgaa.CClo
