/- The walk of impl.follow with the closure of impl.BouncesWithin, and of impl.BouncesWithin itself: the bounces of a beam are gathered in a variable that the closure captures. Conditions: the plain function fol tells a result (h). The callees' contracts are the printed ones. -/
import Derived.Test.YtiembijmopimgaaPFnExactBouncesWithinx5
import Derived.Deep.LoopGhost
namespace Go.Proofs.Ytiembijmopimgaa.Follow
open Go.RowKit Go.Proofs.Ytiembijmopimgaa.PFnExactBouncesWithin Go.Proofs.YtiembijmopimgaaW.PrintWords
set_option linter.unusedVariables false
set_option linter.unusedSimpArgs false

theorem blk_first (w : World) (cs : Array Value) (t : TypeId) : (w.alloc (.cells cs t)).heap[w.heap.size]? = some (.cells cs t (0, 0)) := (MapKept.heap_alloc w _).1

set_option maxHeartbeats 1000000 in
set_option maxRecDepth 100000 in
theorem clo (w0 w : World) (m x y : Int) (r u : Bool) (sd acc : ByteArray) (g : Nat) (hsz : acc.size + sd.size ≤ 9223372036854775807) (hB : Below w0.heap.size w0 w) (hg : w0.heap.size ≤ g) (ho : w.heap[g]? = some (.cells #[.string acc] 9 (0, 0))) :
    Calls Try.prog 19 #[.int .i64 m, .agg #[.int .i64 x, .int .i64 y, .bool r, .bool u], .string sd, .pointer (some ⟨g, 0, none⟩)] w fun e w' => e = .returned (.bool false) ∧ w'.heap[g]? = some (.cells #[.string (acc ++ sd)] 9 (0, 0)) ∧ Below w0.heap.size w0 w' ∧ ∀ k, k ≠ g → k < w.heap.size → w'.heap[k]? = w.heap[k]? := by
  have hc : w.cell? ⟨g, 0, none⟩ = some (.string acc) := (blk_cell ho 0).trans rfl
  have hf : w.frozen? ⟨g, 0, none⟩ = false := blk_frozen ho 0
  have hl : g < w.heap.size := blk_lt ho
  have HO := Aside0.mk ho
  have HB := Aside0.mk hB
  clear ho hB
  go_enter Try.func19, Try.ntmps19
  go_wp2
  go_ret
  refine ⟨rfl, blk_alloc (blk_put (cs' := #[.string (acc ++ sd)]) HO.out 0 _ rfl) _, (HB.out.setCell hg _).alloc (Nat.le_trans HB.out.size (by simp [World.setCell])) _, fun k h1 h2 => ?_⟩
  rw [Below.heap_alloc _ _ _ (by simpa [World.setCell] using h2), Below.heap_setCell _ _ _ _ h1]

def sg (b : Bool) : Int := if b = true then 1 else -1
/-- What next comes to. -/
def nextO (t0 t1 x y : Int) (r u : Bool) : Option (Int × Int × Bool × Bool × ByteArray) :=
  (impl_isCorner.f t0 t1 (wrap64 (x + sg r)) (wrap64 (y + sg u)) r u).bind fun c =>
    if c = true then some (wrap64 (x + sg r), wrap64 (y + sg u), r, u, ⟨#[]⟩)
    else if wrap64 (x + sg r) = t0 then (impl_inward.f t0 t1 (wrap64 (x + sg r)) (wrap64 (y + sg u)) r u).bind fun b => some (b.1, b.2.1, b.2.2.1, b.2.2.2, ⟨#[114]⟩)
    else if wrap64 (x + sg r) = 0 then (impl_inward.f t0 t1 (wrap64 (x + sg r)) (wrap64 (y + sg u)) r u).bind fun b => some (b.1, b.2.1, b.2.2.1, b.2.2.2, ⟨#[108]⟩)
    else if wrap64 (y + sg u) = t1 then (impl_inward.f t0 t1 (wrap64 (x + sg r)) (wrap64 (y + sg u)) r u).bind fun b => some (b.1, b.2.1, b.2.2.1, b.2.2.2, ⟨#[117]⟩)
    else if wrap64 (y + sg u) = 0 then (impl_inward.f t0 t1 (wrap64 (x + sg r)) (wrap64 (y + sg u)) r u).bind fun b => some (b.1, b.2.1, b.2.2.1, b.2.2.2, ⟨#[100]⟩)
    else some (wrap64 (x + sg r), wrap64 (y + sg u), r, u, ⟨#[]⟩)

/-- What follow comes to, with the closure of BouncesWithin: what is gathered. -/
def fol : Nat → Int → Int → Int → Int → Int → Bool → Bool → ByteArray → Int → ByteArray → Option ByteArray
  | 0, _, _, _, _, _, _, _, _, _, _ => none
  | k + 1, n, t0, t1, x, y, r, u, sd, md, acc =>
    if acc.size + sd.size ≤ 9223372036854775807 then
      if md < n then
        if md = 0 then (nextO t0 t1 x y r u).bind fun b => fol k n t0 t1 b.1 b.2.1 b.2.2.1 b.2.2.2.1 b.2.2.2.2 (wrap64 (md + 1)) (acc ++ sd)
        else (impl_isCorner.f t0 t1 x y r u).bind fun c =>
          if c = true then some (acc ++ sd)
          else (nextO t0 t1 x y r u).bind fun b => fol k n t0 t1 b.1 b.2.1 b.2.2.1 b.2.2.2.1 b.2.2.2.2 (wrap64 (md + 1)) (acc ++ sd)
      else some (acc ++ sd)
    else none

set_option maxHeartbeats 2000000 in
set_option maxRecDepth 100000 in
theorem follow_walk (k : Nat) (w0 w : World) (n t0 t1 x y x1 y1 : Int) (r u r1 u1 : Bool) (acc R : ByteArray) (g : Nat)
    (hin : impl_inward.f t0 t1 x y r u = some (x1, y1, r1, u1)) (h : fol k n t0 t1 x1 y1 r1 u1 ⟨#[]⟩ 0 acc = some R)
    (hnext : ∀ (x y : Int) (r u : Bool) (x' y' : Int) (r' u' : Bool) (s : ByteArray) (W : World), nextO t0 t1 x y r u = some (x', y', r', u', s) →
      Calls Try.prog 30 #[.agg #[.int .i64 t0, .int .i64 t1], .agg #[.int .i64 x, .int .i64 y, .bool r, .bool u]] W fun e w' => e = .returned (.tuple #[.agg #[.int .i64 x', .int .i64 y', .bool r', .bool u'], .string s]) ∧ Below W.heap.size W w')
    (hB : Below w0.heap.size w0 w) (hg : w0.heap.size ≤ g) (ho : w.heap[g]? = some (.cells #[.string acc] 9 (0, 0))) :
    Calls Try.prog 18 #[.agg #[.int .i64 t0, .int .i64 t1], .agg #[.int .i64 x, .int .i64 y, .bool r, .bool u], .int .i64 n, .func (.func 19) #[] #[.pointer (some ⟨g, 0, none⟩)]] w
      fun e w' => e = .returned (.tuple #[]) ∧ w'.heap[g]? = some (.cells #[.string R] 9 (0, 0)) ∧ Below w0.heap.size w0 w' := by
  have HIN := Aside0.mk hin
  have HF := Aside0.mk h
  have HN := Aside0.mk hnext
  have HO := Aside0.mk ho
  have HB := Aside0.mk hB
  have hgl : g < w.heap.size := blk_lt ho
  clear hin h hnext ho hB
  go_enter Try.func18, Try.ntmps18
  go_wp2_with fail
  refine (impl_inward.calls t0 t1 x y r u x1 y1 r1 u1 _ HIN.out).mono ?_
  rintro e w1 ⟨rfl, hb1⟩
  have T1 := Aside0.mk (blk_below (blk_alloc (blk_first w #[.int .i64 t0, .int .i64 t1] 28) (.cells #[.int .i64 x, .int .i64 y, .bool r, .bool u] 30)) hb1)
  have B1 := Aside0.mk (blk_below (blk_first (w.alloc (.cells #[.int .i64 t0, .int .i64 t1] 28)) #[.int .i64 x, .int .i64 y, .bool r, .bool u] 30) hb1)
  have O1 := Aside0.mk (blk_below (blk_alloc (blk_alloc HO.out (.cells #[.int .i64 t0, .int .i64 t1] 28)) (.cells #[.int .i64 x, .int .i64 y, .bool r, .bool u] 30)) hb1)
  have L1 := Aside0.mk (below_step (below_alloc (below_alloc HB.out (.cells #[.int .i64 t0, .int .i64 t1] 28)) (.cells #[.int .i64 x, .int .i64 y, .bool r, .bool u] 30)) hb1)
  have q0 : w1.cell? ⟨w.heap.size + 1, 0, none⟩ = some (.int .i64 x) := by have := blk_cell B1.out 0; simpa using this
  have q1 : w1.cell? ⟨w.heap.size + 1, 1, none⟩ = some (.int .i64 y) := by have := blk_cell B1.out 1; simpa using this
  have q2 : w1.cell? ⟨w.heap.size + 1, 2, none⟩ = some (.bool r) := by have := blk_cell B1.out 2; simpa using this
  have q3 : w1.cell? ⟨w.heap.size + 1, 3, none⟩ = some (.bool u) := by have := blk_cell B1.out 3; simpa using this
  have f0 : w1.frozen? ⟨w.heap.size + 1, 0, none⟩ = false := by have := blk_frozen B1.out 0; simpa using this
  have f1 : w1.frozen? ⟨w.heap.size + 1, 1, none⟩ = false := by have := blk_frozen B1.out 1; simpa using this
  have f2 : w1.frozen? ⟨w.heap.size + 1, 2, none⟩ = false := by have := blk_frozen B1.out 2; simpa using this
  have f3 : w1.frozen? ⟨w.heap.size + 1, 3, none⟩ = false := by have := blk_frozen B1.out 3; simpa using this
  clear hb1
  go_wp2
  have z1 := blk_lt T1.out
  have HS : Aside0 (g ≠ w.heap.size ∧ g ≠ w.heap.size + 1 ∧ w0.heap.size ≤ w.heap.size) := ⟨by omega, by omega, HB.out.size⟩
  clear q0 q1 q2 q3 f0 f1 f2 f3
  go_loopg [8, 9] k (fun kq v8 v9 wr => ∃ (sd : ByteArray) (md x2 y2 : Int) (r2 u2 : Bool) (ac : ByteArray), v8 = .string sd ∧ v9 = .int .i64 md ∧ Aside0 (fol kq n t0 t1 x2 y2 r2 u2 sd md ac = some R) ∧ Aside0 (wr.heap[g]? = some (.cells #[.string ac] 9 (0, 0))) ∧ Aside0 (wr.heap[w.heap.size]? = some (.cells #[.int .i64 t0, .int .i64 t1] 28 (0, 0))) ∧ Aside0 (wr.heap[w.heap.size + 1]? = some (.cells #[.int .i64 x2, .int .i64 y2, .bool r2, .bool u2] 30 (0, 0))) ∧ Aside0 (Below w0.heap.size w0 wr))
  case atStart =>
    refine ⟨_, _, x1, y1, r1, u1, acc, rfl, rfl, HF, ?_, ?_, ?_, ?_⟩
    · exact ⟨by rw [Below.heap_setCell _ _ _ _ HS.out.2.1, Below.heap_setCell _ _ _ _ HS.out.2.1, Below.heap_setCell _ _ _ _ HS.out.2.1, Below.heap_setCell _ _ _ _ HS.out.2.1]; exact O1.out⟩
    · exact ⟨by rw [Below.heap_setCell _ _ _ _ (by simp), Below.heap_setCell _ _ _ _ (by simp), Below.heap_setCell _ _ _ _ (by simp), Below.heap_setCell _ _ _ _ (by simp)]; exact T1.out⟩
    · exact ⟨blk_put (blk_put (blk_put (blk_put (by simpa using B1.out) 0 _ rfl) 1 _ rfl) 2 _ rfl) 3 _ rfl⟩
    · exact ⟨(((L1.out.setCell (by have := HS.out; simp; omega) _).setCell (by have := HS.out; simp; omega) _).setCell (by have := HS.out; simp; omega) _).setCell (by have := HS.out; simp; omega) _⟩
  case round =>
    obtain ⟨sd, md, x2, y2, r2, u2, ac, rfl, rfl, FB, OB, TB, BB, LB⟩ := hrel
    clear HF O1 T1 B1 L1
    rcases gk with _ | gk
    · have := FB.out; simp [fol] at this
    have fb := FB.out
    simp only [fol] at fb
    by_cases hsz : ac.size + sd.size ≤ 9223372036854775807
    · rw [if_pos hsz] at fb
      have SZ := Aside0.mk hsz
      clear hsz FB
      have q0 : wr.cell? ⟨w.heap.size + 1, 0, none⟩ = some (.int .i64 x2) := (blk_cell BB.out 0).trans rfl
      have q1 : wr.cell? ⟨w.heap.size + 1, 1, none⟩ = some (.int .i64 y2) := (blk_cell BB.out 1).trans rfl
      have q2 : wr.cell? ⟨w.heap.size + 1, 2, none⟩ = some (.bool r2) := (blk_cell BB.out 2).trans rfl
      have q3 : wr.cell? ⟨w.heap.size + 1, 3, none⟩ = some (.bool u2) := (blk_cell BB.out 3).trans rfl
      by_cases c1 : md < n
      · rw [if_pos c1] at fb
        by_cases c2 : md = 0
        · rw [if_pos c2] at fb
          obtain ⟨⟨b1, b2, b3, b4, b5⟩, hx, fr⟩ := Option.bind_eq_some_iff.mp fb
          have HX := Aside0.mk hx
          have FR : Aside0 (fol gk n t0 t1 b1 b2 b3 b4 b5 (wrap64 (md + 1)) (ac ++ sd) = some R) := ⟨fr⟩
          have d2 : (md == 0) = true := by simpa using c2
          have d1 : decide (md < n) = true := by simpa using c1
          clear fb hx fr c2
          go_wp2_with fail
          refine (clo w0 _ md x2 y2 r2 u2 sd ac g SZ.out LB.out hg OB.out).mono ?_
          rintro e w2 ⟨rfl, ho2, hb2, hk2⟩
          have O2 := Aside0.mk ho2
          have L2 := Aside0.mk hb2
          have T2 := Aside0.mk ((hk2 _ (Ne.symm HS.out.1) (blk_lt TB.out)).trans TB.out)
          have B2 := Aside0.mk ((hk2 _ (Ne.symm HS.out.2.1) (blk_lt BB.out)).trans BB.out)
          clear ho2 hb2 hk2 OB LB TB BB q0 q1 q2 q3
          have a0 : w2.cell? ⟨w.heap.size, 0, none⟩ = some (.int .i64 t0) := (blk_cell T2.out 0).trans rfl
          have a1 : w2.cell? ⟨w.heap.size, 1, none⟩ = some (.int .i64 t1) := (blk_cell T2.out 1).trans rfl
          have q0 : w2.cell? ⟨w.heap.size + 1, 0, none⟩ = some (.int .i64 x2) := (blk_cell B2.out 0).trans rfl
          have q1 : w2.cell? ⟨w.heap.size + 1, 1, none⟩ = some (.int .i64 y2) := (blk_cell B2.out 1).trans rfl
          have q2 : w2.cell? ⟨w.heap.size + 1, 2, none⟩ = some (.bool r2) := (blk_cell B2.out 2).trans rfl
          have q3 : w2.cell? ⟨w.heap.size + 1, 3, none⟩ = some (.bool u2) := (blk_cell B2.out 3).trans rfl
          go_wp2_with fail
          refine (HN.out x2 y2 r2 u2 b1 b2 b3 b4 b5 _ HX.out).mono ?_
          rintro e w5 ⟨rfl, hb5⟩
          have O5 := Aside0.mk (blk_below O2.out hb5)
          have L5 := Aside0.mk (below_step L2.out hb5)
          have T5 := Aside0.mk (blk_below T2.out hb5)
          have B5 := Aside0.mk (blk_below B2.out hb5)
          clear hb5 O2 L2 T2 B2 a0 a1 q0 q1 q2 q3
          have q0 : w5.cell? ⟨w.heap.size + 1, 0, none⟩ = some (.int .i64 x2) := (blk_cell B5.out 0).trans rfl
          have q1 : w5.cell? ⟨w.heap.size + 1, 1, none⟩ = some (.int .i64 y2) := (blk_cell B5.out 1).trans rfl
          have q2 : w5.cell? ⟨w.heap.size + 1, 2, none⟩ = some (.bool r2) := (blk_cell B5.out 2).trans rfl
          have q3 : w5.cell? ⟨w.heap.size + 1, 3, none⟩ = some (.bool u2) := (blk_cell B5.out 3).trans rfl
          have f0 : w5.frozen? ⟨w.heap.size + 1, 0, none⟩ = false := blk_frozen B5.out 0
          have f1 : w5.frozen? ⟨w.heap.size + 1, 1, none⟩ = false := blk_frozen B5.out 1
          have f2 : w5.frozen? ⟨w.heap.size + 1, 2, none⟩ = false := blk_frozen B5.out 2
          have f3 : w5.frozen? ⟨w.heap.size + 1, 3, none⟩ = false := blk_frozen B5.out 3
          go_wp2
          go_roundg gk
          case measure => omega
          case rel =>
            refine ⟨b5, wrap64 (md + 1), b1, b2, b3, b4, ac ++ sd, rfl, rfl, FR, ?_, ?_, ?_, ?_⟩
            · exact ⟨by rw [Below.heap_setCell _ _ _ _ HS.out.2.1, Below.heap_setCell _ _ _ _ HS.out.2.1, Below.heap_setCell _ _ _ _ HS.out.2.1, Below.heap_setCell _ _ _ _ HS.out.2.1]; exact O5.out⟩
            · exact ⟨by rw [Below.heap_setCell _ _ _ _ (by simp), Below.heap_setCell _ _ _ _ (by simp), Below.heap_setCell _ _ _ _ (by simp), Below.heap_setCell _ _ _ _ (by simp)]; exact T5.out⟩
            · exact ⟨blk_put (blk_put (blk_put (blk_put B5.out 0 _ rfl) 1 _ rfl) 2 _ rfl) 3 _ rfl⟩
            · exact ⟨(((L5.out.setCell (by have := HS.out; simp; omega) _).setCell (by have := HS.out; simp; omega) _).setCell (by have := HS.out; simp; omega) _).setCell (by have := HS.out; simp; omega) _⟩
        · rw [if_neg c2] at fb
          obtain ⟨cc, hcc, fb2⟩ := Option.bind_eq_some_iff.mp fb
          have d2 : (md == 0) = false := by simpa using c2
          have d1 : decide (md < n) = true := by simpa using c1
          clear fb
          cases cc
          · rw [if_neg (by simp)] at fb2
            obtain ⟨⟨b1, b2, b3, b4, b5⟩, hx, fr⟩ := Option.bind_eq_some_iff.mp fb2
            have HX := Aside0.mk hx
            have HC := Aside0.mk hcc
            have FR : Aside0 (fol gk n t0 t1 b1 b2 b3 b4 b5 (wrap64 (md + 1)) (ac ++ sd) = some R) := ⟨fr⟩
            clear fb2 hx fr hcc
            go_wp2_with fail
            refine (clo w0 _ md x2 y2 r2 u2 sd ac g SZ.out LB.out hg OB.out).mono ?_
            rintro e w2 ⟨rfl, ho2, hb2, hk2⟩
            have O2 := Aside0.mk ho2
            have L2 := Aside0.mk hb2
            have T2 := Aside0.mk ((hk2 _ (Ne.symm HS.out.1) (blk_lt TB.out)).trans TB.out)
            have B2 := Aside0.mk ((hk2 _ (Ne.symm HS.out.2.1) (blk_lt BB.out)).trans BB.out)
            clear ho2 hb2 hk2 OB LB TB BB q0 q1 q2 q3
            have a0 : w2.cell? ⟨w.heap.size, 0, none⟩ = some (.int .i64 t0) := (blk_cell T2.out 0).trans rfl
            have a1 : w2.cell? ⟨w.heap.size, 1, none⟩ = some (.int .i64 t1) := (blk_cell T2.out 1).trans rfl
            have q0 : w2.cell? ⟨w.heap.size + 1, 0, none⟩ = some (.int .i64 x2) := (blk_cell B2.out 0).trans rfl
            have q1 : w2.cell? ⟨w.heap.size + 1, 1, none⟩ = some (.int .i64 y2) := (blk_cell B2.out 1).trans rfl
            have q2 : w2.cell? ⟨w.heap.size + 1, 2, none⟩ = some (.bool r2) := (blk_cell B2.out 2).trans rfl
            have q3 : w2.cell? ⟨w.heap.size + 1, 3, none⟩ = some (.bool u2) := (blk_cell B2.out 3).trans rfl
            go_wp2_with fail
            refine (impl_isCorner.calls t0 t1 x2 y2 r2 u2 false _ HC.out).mono ?_
            rintro e w3 ⟨rfl, hb3⟩
            have O3 := Aside0.mk (blk_below O2.out hb3)
            have L3 := Aside0.mk (below_step L2.out hb3)
            have T3 := Aside0.mk (blk_below T2.out hb3)
            have B3 := Aside0.mk (blk_below B2.out hb3)
            clear hb3 O2 L2 T2 B2 a0 a1 q0 q1 q2 q3
            have a0 : w3.cell? ⟨w.heap.size, 0, none⟩ = some (.int .i64 t0) := (blk_cell T3.out 0).trans rfl
            have a1 : w3.cell? ⟨w.heap.size, 1, none⟩ = some (.int .i64 t1) := (blk_cell T3.out 1).trans rfl
            have q0 : w3.cell? ⟨w.heap.size + 1, 0, none⟩ = some (.int .i64 x2) := (blk_cell B3.out 0).trans rfl
            have q1 : w3.cell? ⟨w.heap.size + 1, 1, none⟩ = some (.int .i64 y2) := (blk_cell B3.out 1).trans rfl
            have q2 : w3.cell? ⟨w.heap.size + 1, 2, none⟩ = some (.bool r2) := (blk_cell B3.out 2).trans rfl
            have q3 : w3.cell? ⟨w.heap.size + 1, 3, none⟩ = some (.bool u2) := (blk_cell B3.out 3).trans rfl
            go_wp2_with fail
            refine (HN.out x2 y2 r2 u2 b1 b2 b3 b4 b5 _ HX.out).mono ?_
            rintro e w5 ⟨rfl, hb5⟩
            have O5 := Aside0.mk (blk_below O3.out hb5)
            have L5 := Aside0.mk (below_step L3.out hb5)
            have T5 := Aside0.mk (blk_below T3.out hb5)
            have B5 := Aside0.mk (blk_below B3.out hb5)
            clear hb5 O3 L3 T3 B3 a0 a1 q0 q1 q2 q3
            have q0 : w5.cell? ⟨w.heap.size + 1, 0, none⟩ = some (.int .i64 x2) := (blk_cell B5.out 0).trans rfl
            have q1 : w5.cell? ⟨w.heap.size + 1, 1, none⟩ = some (.int .i64 y2) := (blk_cell B5.out 1).trans rfl
            have q2 : w5.cell? ⟨w.heap.size + 1, 2, none⟩ = some (.bool r2) := (blk_cell B5.out 2).trans rfl
            have q3 : w5.cell? ⟨w.heap.size + 1, 3, none⟩ = some (.bool u2) := (blk_cell B5.out 3).trans rfl
            have f0 : w5.frozen? ⟨w.heap.size + 1, 0, none⟩ = false := blk_frozen B5.out 0
            have f1 : w5.frozen? ⟨w.heap.size + 1, 1, none⟩ = false := blk_frozen B5.out 1
            have f2 : w5.frozen? ⟨w.heap.size + 1, 2, none⟩ = false := blk_frozen B5.out 2
            have f3 : w5.frozen? ⟨w.heap.size + 1, 3, none⟩ = false := blk_frozen B5.out 3
            go_wp2
            go_roundg gk
            case measure => omega
            case rel =>
              refine ⟨b5, wrap64 (md + 1), b1, b2, b3, b4, ac ++ sd, rfl, rfl, FR, ?_, ?_, ?_, ?_⟩
              · exact ⟨by rw [Below.heap_setCell _ _ _ _ HS.out.2.1, Below.heap_setCell _ _ _ _ HS.out.2.1, Below.heap_setCell _ _ _ _ HS.out.2.1, Below.heap_setCell _ _ _ _ HS.out.2.1]; exact O5.out⟩
              · exact ⟨by rw [Below.heap_setCell _ _ _ _ (by simp), Below.heap_setCell _ _ _ _ (by simp), Below.heap_setCell _ _ _ _ (by simp), Below.heap_setCell _ _ _ _ (by simp)]; exact T5.out⟩
              · exact ⟨blk_put (blk_put (blk_put (blk_put B5.out 0 _ rfl) 1 _ rfl) 2 _ rfl) 3 _ rfl⟩
              · exact ⟨(((L5.out.setCell (by have := HS.out; simp; omega) _).setCell (by have := HS.out; simp; omega) _).setCell (by have := HS.out; simp; omega) _).setCell (by have := HS.out; simp; omega) _⟩
          · rw [if_pos rfl] at fb2
            have HC := Aside0.mk hcc
            obtain rfl := Option.some.inj fb2
            clear hcc fb2
            go_wp2_with fail
            refine (clo w0 _ md x2 y2 r2 u2 sd ac g SZ.out LB.out hg OB.out).mono ?_
            rintro e w2 ⟨rfl, ho2, hb2, hk2⟩
            have O2 := Aside0.mk ho2
            have L2 := Aside0.mk hb2
            have T2 := Aside0.mk ((hk2 _ (Ne.symm HS.out.1) (blk_lt TB.out)).trans TB.out)
            have B2 := Aside0.mk ((hk2 _ (Ne.symm HS.out.2.1) (blk_lt BB.out)).trans BB.out)
            clear ho2 hb2 hk2 OB LB TB BB q0 q1 q2 q3
            have a0 : w2.cell? ⟨w.heap.size, 0, none⟩ = some (.int .i64 t0) := (blk_cell T2.out 0).trans rfl
            have a1 : w2.cell? ⟨w.heap.size, 1, none⟩ = some (.int .i64 t1) := (blk_cell T2.out 1).trans rfl
            have q0 : w2.cell? ⟨w.heap.size + 1, 0, none⟩ = some (.int .i64 x2) := (blk_cell B2.out 0).trans rfl
            have q1 : w2.cell? ⟨w.heap.size + 1, 1, none⟩ = some (.int .i64 y2) := (blk_cell B2.out 1).trans rfl
            have q2 : w2.cell? ⟨w.heap.size + 1, 2, none⟩ = some (.bool r2) := (blk_cell B2.out 2).trans rfl
            have q3 : w2.cell? ⟨w.heap.size + 1, 3, none⟩ = some (.bool u2) := (blk_cell B2.out 3).trans rfl
            go_wp2_with fail
            refine (impl_isCorner.calls t0 t1 x2 y2 r2 u2 true _ HC.out).mono ?_
            rintro e w3 ⟨rfl, hb3⟩
            have O3 := Aside0.mk (blk_below O2.out hb3)
            have L3 := Aside0.mk (below_step L2.out hb3)
            have T3 := Aside0.mk (blk_below T2.out hb3)
            have B3 := Aside0.mk (blk_below B2.out hb3)
            clear hb3 O2 L2 T2 B2 a0 a1 q0 q1 q2 q3
            go_wp2
            go_end0
            exact ⟨rfl, O3.out, L3.out⟩
      · rw [if_neg c1] at fb
        obtain rfl := Option.some.inj fb
        have d1 : decide (md < n) = false := by simpa using c1
        clear fb
        go_wp2_with fail
        refine (clo w0 _ md x2 y2 r2 u2 sd ac g SZ.out LB.out hg OB.out).mono ?_
        rintro e w2 ⟨rfl, ho2, hb2, hk2⟩
        have O2 := Aside0.mk ho2
        have L2 := Aside0.mk hb2
        have T2 := Aside0.mk ((hk2 _ (Ne.symm HS.out.1) (blk_lt TB.out)).trans TB.out)
        have B2 := Aside0.mk ((hk2 _ (Ne.symm HS.out.2.1) (blk_lt BB.out)).trans BB.out)
        clear ho2 hb2 hk2 OB LB TB BB q0 q1 q2 q3
        go_wp2
        go_end0
        exact ⟨rfl, O2.out, L2.out⟩
    · rw [if_neg hsz] at fb; cases fb
end Go.Proofs.Ytiembijmopimgaa.Follow
