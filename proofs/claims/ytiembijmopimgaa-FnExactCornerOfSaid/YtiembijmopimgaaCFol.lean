/- The walk of impl.follow with the closure of impl.toCorner. Conditions: the plain function fol tells a result (h); the captured variables stand as Cap says (hC) and are apart (hD). -/
import Derived.Test.YtiembijmopimgaaCClo
namespace Go.Proofs.Ytiembijmopimgaa.CFol
open Go.RowKit Go.Proofs.Ytiembijmopimgaa.PFnExactCornerOf Go.Proofs.YtiembijmopimgaaW.PrintWords Go.Proofs.Ytiembijmopimgaa.CNext Go.Proofs.Ytiembijmopimgaa.CClo
set_option linter.unusedVariables false
set_option linter.unusedSimpArgs false

/-- What follow comes to, with the closure of toCorner: the sides, and the steps, the beam at the corner and whether there is one. -/
def fol : Nat → Int → Int → Int → Int → Int → Bool → Bool → ByteArray → Int → ByteArray → Option (ByteArray × Int × Int × Int × Bool × Bool × Bool)
  | 0, _, _, _, _, _, _, _, _, _, _ => none
  | k + 1, n, t0, t1, x, y, r, u, sd, md, acc =>
    if acc.size + sd.size ≤ 9223372036854775807 then
      (impl_isCorner.f t0 t1 x y r u).bind fun c =>
        if 0 < md ∧ c = true then some (acc ++ sd, md, x, y, r, u, true)
        else if md < n then
          if md = 0 then (nextO t0 t1 x y r u).bind fun b => fol k n t0 t1 b.1 b.2.1 b.2.2.1 b.2.2.2.1 b.2.2.2.2 (wrap64 (md + 1)) (acc ++ sd)
          else if c = true then some (acc ++ sd, 0, 0, 0, false, false, false)
          else (nextO t0 t1 x y r u).bind fun b => fol k n t0 t1 b.1 b.2.1 b.2.2.1 b.2.2.2.1 b.2.2.2.2 (wrap64 (md + 1)) (acc ++ sd)
        else some (acc ++ sd, 0, 0, 0, false, false, false)
    else none

theorem four {w0 w : World} {gb gt gs ge gf : Nat} {t0 t1 : Int} {acc : ByteArray} {s x y : Int} {r u f : Bool} {h : Nat} {v0 v1 v2 v3 : Value} (H : Cap w0 w gb gt gs ge gf t0 t1 acc s x y r u f) (hz : w0.heap.size ≤ h) (hn : h + 1 ≠ gb ∧ h + 1 ≠ gs ∧ h + 1 ≠ ge ∧ h + 1 ≠ gf ∧ h + 1 ≠ gt) : Cap w0 ((((w.setCell ⟨h + 1, 0, none⟩ v0).setCell ⟨h + 1, 1, none⟩ v1).setCell ⟨h + 1, 2, none⟩ v2).setCell ⟨h + 1, 3, none⟩ v3) gb gt gs ge gf t0 t1 acc s x y r u f :=
  (((H.other (h + 1) 0 v0 (by omega) hn.1.symm hn.2.2.2.2.symm hn.2.1.symm hn.2.2.1.symm hn.2.2.2.1.symm).other (h + 1) 1 v1 (by omega) hn.1.symm hn.2.2.2.2.symm hn.2.1.symm hn.2.2.1.symm hn.2.2.2.1.symm).other (h + 1) 2 v2 (by omega) hn.1.symm hn.2.2.2.2.symm hn.2.1.symm hn.2.2.1.symm hn.2.2.2.1.symm).other (h + 1) 3 v3 (by omega) hn.1.symm hn.2.2.2.2.symm hn.2.1.symm hn.2.2.1.symm hn.2.2.2.1.symm

set_option maxHeartbeats 2000000 in
set_option maxRecDepth 100000 in
theorem follow_walk (k : Nat) (w0 w : World) (n t0 t1 x y x1 y1 : Int) (r u r1 u1 : Bool) (acc R : ByteArray) (gb gt gs ge gf : Nat) (es ex ey : Int) (er eu ef : Bool)
    (hin : impl_inward.f t0 t1 x y r u = some (x1, y1, r1, u1)) (h : fol k n t0 t1 x1 y1 r1 u1 ⟨#[]⟩ 0 acc = some (R, es, ex, ey, er, eu, ef))
    (hD : Dif w0 gb gt gs ge gf) (hC : Cap w0 w gb gt gs ge gf t0 t1 acc 0 0 0 false false false) :
    Calls Try.prog 18 #[.agg #[.int .i64 t0, .int .i64 t1], .agg #[.int .i64 x, .int .i64 y, .bool r, .bool u], .int .i64 n, .func (.func 34) #[] #[.pointer (some ⟨gb, 0, none⟩), .pointer (some ⟨gt, 0, none⟩), .pointer (some ⟨gs, 0, none⟩), .pointer (some ⟨ge, 0, none⟩), .pointer (some ⟨gf, 0, none⟩)]] w
      fun e w' => e = .returned (.tuple #[]) ∧ Cap w0 w' gb gt gs ge gf t0 t1 R es ex ey er eu ef := by
  have HIN := Aside0.mk hin
  have HF := Aside0.mk h
  have D := Aside0.mk hD
  have HC := Aside0.mk hC
  have HS : Aside0 ((w.heap.size ≠ gb ∧ w.heap.size ≠ gs ∧ w.heap.size ≠ ge ∧ w.heap.size ≠ gf ∧ w.heap.size ≠ gt) ∧ (w.heap.size + 1 ≠ gb ∧ w.heap.size + 1 ≠ gs ∧ w.heap.size + 1 ≠ ge ∧ w.heap.size + 1 ≠ gf ∧ w.heap.size + 1 ≠ gt) ∧ w0.heap.size ≤ w.heap.size) := ⟨by
    have := blk_lt hC.b; have := blk_lt hC.t; have := blk_lt hC.s; have := blk_lt hC.e; have := blk_lt hC.f; have := hC.below.size
    refine ⟨⟨?_, ?_, ?_, ?_, ?_⟩, ⟨?_, ?_, ?_, ?_, ?_⟩, ?_⟩ <;> omega⟩
  clear hin h hC hD
  go_enter Try.func18, Try.ntmps18
  go_wp2_with fail
  refine (impl_inward.calls t0 t1 x y r u x1 y1 r1 u1 _ HIN.out).mono ?_
  rintro e w1 ⟨rfl, hb1⟩
  have T1 := Aside0.mk (blk_below (blk_alloc (blk_first w #[.int .i64 t0, .int .i64 t1] 28) (.cells #[.int .i64 x, .int .i64 y, .bool r, .bool u] 30)) hb1)
  have B1 := Aside0.mk (blk_below (blk_first (w.alloc (.cells #[.int .i64 t0, .int .i64 t1] 28)) #[.int .i64 x, .int .i64 y, .bool r, .bool u] 30) hb1)
  have C1 := Aside0.mk (((HC.out.alloc (.cells #[.int .i64 t0, .int .i64 t1] 28)).alloc (.cells #[.int .i64 x, .int .i64 y, .bool r, .bool u] 30)).call hb1)
  have q0 : w1.cell? ⟨w.heap.size + 1, 0, none⟩ = some (.int .i64 x) := by have := blk_cell B1.out 0; simpa using this
  have q1 : w1.cell? ⟨w.heap.size + 1, 1, none⟩ = some (.int .i64 y) := by have := blk_cell B1.out 1; simpa using this
  have q2 : w1.cell? ⟨w.heap.size + 1, 2, none⟩ = some (.bool r) := by have := blk_cell B1.out 2; simpa using this
  have q3 : w1.cell? ⟨w.heap.size + 1, 3, none⟩ = some (.bool u) := by have := blk_cell B1.out 3; simpa using this
  have f0 : w1.frozen? ⟨w.heap.size + 1, 0, none⟩ = false := by have := blk_frozen B1.out 0; simpa using this
  have f1 : w1.frozen? ⟨w.heap.size + 1, 1, none⟩ = false := by have := blk_frozen B1.out 1; simpa using this
  have f2 : w1.frozen? ⟨w.heap.size + 1, 2, none⟩ = false := by have := blk_frozen B1.out 2; simpa using this
  have f3 : w1.frozen? ⟨w.heap.size + 1, 3, none⟩ = false := by have := blk_frozen B1.out 3; simpa using this
  clear hb1 HC
  go_wp2
  clear q0 q1 q2 q3 f0 f1 f2 f3
  go_loopg [8, 9] k (fun kq v8 v9 wr => ∃ (sd : ByteArray) (md x2 y2 : Int) (r2 u2 : Bool) (ac : ByteArray), v8 = .string sd ∧ v9 = .int .i64 md ∧ Aside0 (fol kq n t0 t1 x2 y2 r2 u2 sd md ac = some (R, es, ex, ey, er, eu, ef)) ∧ Aside0 (Cap w0 wr gb gt gs ge gf t0 t1 ac 0 0 0 false false false) ∧ Aside0 (wr.heap[w.heap.size]? = some (.cells #[.int .i64 t0, .int .i64 t1] 28 (0, 0))) ∧ Aside0 (wr.heap[w.heap.size + 1]? = some (.cells #[.int .i64 x2, .int .i64 y2, .bool r2, .bool u2] 30 (0, 0))))
  case atStart =>
    have hs := HS.out
    refine ⟨_, _, x1, y1, r1, u1, acc, rfl, rfl, HF, ?_, ?_, ?_⟩
    · exact ⟨four C1.out hs.2.2 hs.2.1⟩
    · exact ⟨by rw [Below.heap_setCell _ _ _ _ (by simp), Below.heap_setCell _ _ _ _ (by simp), Below.heap_setCell _ _ _ _ (by simp), Below.heap_setCell _ _ _ _ (by simp)]; exact T1.out⟩
    · exact ⟨blk_put (blk_put (blk_put (blk_put (by simpa using B1.out) 0 _ rfl) 1 _ rfl) 2 _ rfl) 3 _ rfl⟩
  case round =>
    obtain ⟨sd, md, x2, y2, r2, u2, ac, rfl, rfl, FB, CB, TB, BB⟩ := hrel
    clear HF C1 T1 B1
    rcases gk with _ | gk
    · have := FB.out; simp [fol] at this
    have fb := FB.out
    simp only [fol] at fb
    by_cases hsz : ac.size + sd.size ≤ 9223372036854775807
    · rw [if_pos hsz] at fb
      have SZ := Aside0.mk hsz
      clear hsz FB
      obtain ⟨cc, hcc, fb2⟩ := Option.bind_eq_some_iff.mp fb
      have HCC := Aside0.mk hcc
      clear fb hcc
      have q0 : wr.cell? ⟨w.heap.size + 1, 0, none⟩ = some (.int .i64 x2) := (blk_cell BB.out 0).trans rfl
      have q1 : wr.cell? ⟨w.heap.size + 1, 1, none⟩ = some (.int .i64 y2) := (blk_cell BB.out 1).trans rfl
      have q2 : wr.cell? ⟨w.heap.size + 1, 2, none⟩ = some (.bool r2) := (blk_cell BB.out 2).trans rfl
      have q3 : wr.cell? ⟨w.heap.size + 1, 3, none⟩ = some (.bool u2) := (blk_cell BB.out 3).trans rfl
      by_cases cend : 0 < md ∧ cc = true
      · rw [if_pos cend] at fb2
        simp only [Option.some.injEq, Prod.mk.injEq] at fb2
        obtain ⟨rfl, rfl, rfl, rfl, rfl, rfl, rfl⟩ := fb2
        have CE := Aside0.mk cend
        clear cend
        go_wp2_with fail
        refine (clo w0 _ md x2 y2 r2 u2 sd ac gb gt gs ge gf t0 t1 0 0 0 false false cc SZ.out D.out CB.out HCC.out).mono ?_
        rintro e w2 ⟨⟨hp, -⟩, hz2, hk2⟩
        obtain ⟨rfl, hc2⟩ := hp (by first | exact CE.out | exact fun h => CE.out ⟨h.1, trivial⟩)
        have C2 := Aside0.mk hc2
        clear hp hz2 hk2 hc2 CB TB BB q0 q1 q2 q3
        go_wp2
        go_end0
        exact ⟨rfl, C2.out⟩
      · rw [if_neg cend] at fb2
        have CE := Aside0.mk cend
        clear cend
        by_cases c1 : md < n
        · rw [if_pos c1] at fb2
          have d1 : decide (md < n) = true := by simpa using c1
          by_cases c2 : md = 0
          · rw [if_pos c2] at fb2
            obtain ⟨⟨b1, b2, b3, b4, b5⟩, hx, fr⟩ := Option.bind_eq_some_iff.mp fb2
            have HX := Aside0.mk hx
            have FR : Aside0 (fol gk n t0 t1 b1 b2 b3 b4 b5 (wrap64 (md + 1)) (ac ++ sd) = some (R, es, ex, ey, er, eu, ef)) := ⟨fr⟩
            have d2 : (md == 0) = true := by simpa using c2
            clear fb2 hx fr c1 c2
            go_wp2_with fail
            refine (clo w0 _ md x2 y2 r2 u2 sd ac gb gt gs ge gf t0 t1 0 0 0 false false cc SZ.out D.out CB.out HCC.out).mono ?_
            rintro e w2 ⟨⟨-, hp⟩, hz2, hk2⟩
            obtain ⟨rfl, hc2⟩ := hp (by first | exact CE.out | exact fun h => CE.out ⟨h.1, trivial⟩)
            have C2 := Aside0.mk hc2
            have T2 := Aside0.mk ((hk2 _ HS.out.1.1 HS.out.1.2.1 HS.out.1.2.2.1 HS.out.1.2.2.2.1 (blk_lt TB.out)).trans TB.out)
            have B2 := Aside0.mk ((hk2 _ HS.out.2.1.1 HS.out.2.1.2.1 HS.out.2.1.2.2.1 HS.out.2.1.2.2.2.1 (blk_lt BB.out)).trans BB.out)
            clear hp hz2 hk2 hc2 CB TB BB q0 q1 q2 q3
            have a0 : w2.cell? ⟨w.heap.size, 0, none⟩ = some (.int .i64 t0) := (blk_cell T2.out 0).trans rfl
            have a1 : w2.cell? ⟨w.heap.size, 1, none⟩ = some (.int .i64 t1) := (blk_cell T2.out 1).trans rfl
            have q0 : w2.cell? ⟨w.heap.size + 1, 0, none⟩ = some (.int .i64 x2) := (blk_cell B2.out 0).trans rfl
            have q1 : w2.cell? ⟨w.heap.size + 1, 1, none⟩ = some (.int .i64 y2) := (blk_cell B2.out 1).trans rfl
            have q2 : w2.cell? ⟨w.heap.size + 1, 2, none⟩ = some (.bool r2) := (blk_cell B2.out 2).trans rfl
            have q3 : w2.cell? ⟨w.heap.size + 1, 3, none⟩ = some (.bool u2) := (blk_cell B2.out 3).trans rfl
            go_wp2_with fail
            refine (next_walk t0 t1 x2 y2 r2 u2 b1 b2 b3 b4 b5 _ HX.out).mono ?_
            rintro e w5 ⟨rfl, hb5⟩
            have C5 := Aside0.mk (C2.out.call hb5)
            have T5 := Aside0.mk (blk_below T2.out hb5)
            have B5 := Aside0.mk (blk_below B2.out hb5)
            clear hb5 C2 T2 B2 a0 a1 q0 q1 q2 q3
            have q0 : w5.cell? ⟨w.heap.size + 1, 0, none⟩ = some (.int .i64 x2) := (blk_cell B5.out 0).trans rfl
            have q1 : w5.cell? ⟨w.heap.size + 1, 1, none⟩ = some (.int .i64 y2) := (blk_cell B5.out 1).trans rfl
            have q2 : w5.cell? ⟨w.heap.size + 1, 2, none⟩ = some (.bool r2) := (blk_cell B5.out 2).trans rfl
            have q3 : w5.cell? ⟨w.heap.size + 1, 3, none⟩ = some (.bool u2) := (blk_cell B5.out 3).trans rfl
            have f0 : w5.frozen? ⟨w.heap.size + 1, 0, none⟩ = false := blk_frozen B5.out 0
            have f1 : w5.frozen? ⟨w.heap.size + 1, 1, none⟩ = false := blk_frozen B5.out 1
            have f2 : w5.frozen? ⟨w.heap.size + 1, 2, none⟩ = false := blk_frozen B5.out 2
            have f3 : w5.frozen? ⟨w.heap.size + 1, 3, none⟩ = false := blk_frozen B5.out 3
            go_wp2
            go_roundg gk
            case measure => omega
            case rel =>
              have hs := HS.out
              refine ⟨b5, wrap64 (md + 1), b1, b2, b3, b4, ac ++ sd, rfl, rfl, FR, ?_, ?_, ?_⟩
              · exact ⟨four C5.out hs.2.2 hs.2.1⟩
              · exact ⟨by rw [Below.heap_setCell _ _ _ _ (by simp), Below.heap_setCell _ _ _ _ (by simp), Below.heap_setCell _ _ _ _ (by simp), Below.heap_setCell _ _ _ _ (by simp)]; exact T5.out⟩
              · exact ⟨blk_put (blk_put (blk_put (blk_put B5.out 0 _ rfl) 1 _ rfl) 2 _ rfl) 3 _ rfl⟩
          · rw [if_neg c2] at fb2
            have d2 : (md == 0) = false := by simpa using c2
            cases cc
            · rw [if_neg (by simp)] at fb2
              obtain ⟨⟨b1, b2, b3, b4, b5⟩, hx, fr⟩ := Option.bind_eq_some_iff.mp fb2
              have HX := Aside0.mk hx
              have FR : Aside0 (fol gk n t0 t1 b1 b2 b3 b4 b5 (wrap64 (md + 1)) (ac ++ sd) = some (R, es, ex, ey, er, eu, ef)) := ⟨fr⟩
              clear fb2 hx fr c1 c2
              go_wp2_with fail
              refine (clo w0 _ md x2 y2 r2 u2 sd ac gb gt gs ge gf t0 t1 0 0 0 false false false SZ.out D.out CB.out HCC.out).mono ?_
              rintro e w2 ⟨⟨-, hp⟩, hz2, hk2⟩
              obtain ⟨rfl, hc2⟩ := hp (by first | exact CE.out | exact fun h => CE.out ⟨h.1, trivial⟩)
              have C2 := Aside0.mk hc2
              have T2 := Aside0.mk ((hk2 _ HS.out.1.1 HS.out.1.2.1 HS.out.1.2.2.1 HS.out.1.2.2.2.1 (blk_lt TB.out)).trans TB.out)
              have B2 := Aside0.mk ((hk2 _ HS.out.2.1.1 HS.out.2.1.2.1 HS.out.2.1.2.2.1 HS.out.2.1.2.2.2.1 (blk_lt BB.out)).trans BB.out)
              clear hp hz2 hk2 hc2 CB TB BB q0 q1 q2 q3
              have a0 : w2.cell? ⟨w.heap.size, 0, none⟩ = some (.int .i64 t0) := (blk_cell T2.out 0).trans rfl
              have a1 : w2.cell? ⟨w.heap.size, 1, none⟩ = some (.int .i64 t1) := (blk_cell T2.out 1).trans rfl
              have q0 : w2.cell? ⟨w.heap.size + 1, 0, none⟩ = some (.int .i64 x2) := (blk_cell B2.out 0).trans rfl
              have q1 : w2.cell? ⟨w.heap.size + 1, 1, none⟩ = some (.int .i64 y2) := (blk_cell B2.out 1).trans rfl
              have q2 : w2.cell? ⟨w.heap.size + 1, 2, none⟩ = some (.bool r2) := (blk_cell B2.out 2).trans rfl
              have q3 : w2.cell? ⟨w.heap.size + 1, 3, none⟩ = some (.bool u2) := (blk_cell B2.out 3).trans rfl
              go_wp2_with fail
              refine (impl_isCorner.calls t0 t1 x2 y2 r2 u2 false _ HCC.out).mono ?_
              rintro e w3 ⟨rfl, hb3⟩
              have C3 := Aside0.mk (C2.out.call hb3)
              have T3 := Aside0.mk (blk_below T2.out hb3)
              have B3 := Aside0.mk (blk_below B2.out hb3)
              clear hb3 C2 T2 B2 a0 a1 q0 q1 q2 q3
              have a0 : w3.cell? ⟨w.heap.size, 0, none⟩ = some (.int .i64 t0) := (blk_cell T3.out 0).trans rfl
              have a1 : w3.cell? ⟨w.heap.size, 1, none⟩ = some (.int .i64 t1) := (blk_cell T3.out 1).trans rfl
              have q0 : w3.cell? ⟨w.heap.size + 1, 0, none⟩ = some (.int .i64 x2) := (blk_cell B3.out 0).trans rfl
              have q1 : w3.cell? ⟨w.heap.size + 1, 1, none⟩ = some (.int .i64 y2) := (blk_cell B3.out 1).trans rfl
              have q2 : w3.cell? ⟨w.heap.size + 1, 2, none⟩ = some (.bool r2) := (blk_cell B3.out 2).trans rfl
              have q3 : w3.cell? ⟨w.heap.size + 1, 3, none⟩ = some (.bool u2) := (blk_cell B3.out 3).trans rfl
              go_wp2_with fail
              refine (next_walk t0 t1 x2 y2 r2 u2 b1 b2 b3 b4 b5 _ HX.out).mono ?_
              rintro e w5 ⟨rfl, hb5⟩
              have C5 := Aside0.mk (C3.out.call hb5)
              have T5 := Aside0.mk (blk_below T3.out hb5)
              have B5 := Aside0.mk (blk_below B3.out hb5)
              clear hb5 C3 T3 B3 a0 a1 q0 q1 q2 q3
              have q0 : w5.cell? ⟨w.heap.size + 1, 0, none⟩ = some (.int .i64 x2) := (blk_cell B5.out 0).trans rfl
              have q1 : w5.cell? ⟨w.heap.size + 1, 1, none⟩ = some (.int .i64 y2) := (blk_cell B5.out 1).trans rfl
              have q2 : w5.cell? ⟨w.heap.size + 1, 2, none⟩ = some (.bool r2) := (blk_cell B5.out 2).trans rfl
              have q3 : w5.cell? ⟨w.heap.size + 1, 3, none⟩ = some (.bool u2) := (blk_cell B5.out 3).trans rfl
              have f0 : w5.frozen? ⟨w.heap.size + 1, 0, none⟩ = false := blk_frozen B5.out 0
              have f1 : w5.frozen? ⟨w.heap.size + 1, 1, none⟩ = false := blk_frozen B5.out 1
              have f2 : w5.frozen? ⟨w.heap.size + 1, 2, none⟩ = false := blk_frozen B5.out 2
              have f3 : w5.frozen? ⟨w.heap.size + 1, 3, none⟩ = false := blk_frozen B5.out 3
              go_wp2
              go_roundg gk
              case measure => omega
              case rel =>
                have hs := HS.out
                refine ⟨b5, wrap64 (md + 1), b1, b2, b3, b4, ac ++ sd, rfl, rfl, FR, ?_, ?_, ?_⟩
                · exact ⟨four C5.out hs.2.2 hs.2.1⟩
                · exact ⟨by rw [Below.heap_setCell _ _ _ _ (by simp), Below.heap_setCell _ _ _ _ (by simp), Below.heap_setCell _ _ _ _ (by simp), Below.heap_setCell _ _ _ _ (by simp)]; exact T5.out⟩
                · exact ⟨blk_put (blk_put (blk_put (blk_put B5.out 0 _ rfl) 1 _ rfl) 2 _ rfl) 3 _ rfl⟩
            · rw [if_pos rfl] at fb2
              simp only [Option.some.injEq, Prod.mk.injEq] at fb2
              obtain ⟨rfl, rfl, rfl, rfl, rfl, rfl, rfl⟩ := fb2
              clear c1 c2
              go_wp2_with fail
              refine (clo w0 _ md x2 y2 r2 u2 sd ac gb gt gs ge gf t0 t1 0 0 0 false false true SZ.out D.out CB.out HCC.out).mono ?_
              rintro e w2 ⟨⟨-, hp⟩, hz2, hk2⟩
              obtain ⟨rfl, hc2⟩ := hp (by first | exact CE.out | exact fun h => CE.out ⟨h.1, trivial⟩)
              have C2 := Aside0.mk hc2
              have T2 := Aside0.mk ((hk2 _ HS.out.1.1 HS.out.1.2.1 HS.out.1.2.2.1 HS.out.1.2.2.2.1 (blk_lt TB.out)).trans TB.out)
              have B2 := Aside0.mk ((hk2 _ HS.out.2.1.1 HS.out.2.1.2.1 HS.out.2.1.2.2.1 HS.out.2.1.2.2.2.1 (blk_lt BB.out)).trans BB.out)
              clear hp hz2 hk2 hc2 CB TB BB q0 q1 q2 q3
              have a0 : w2.cell? ⟨w.heap.size, 0, none⟩ = some (.int .i64 t0) := (blk_cell T2.out 0).trans rfl
              have a1 : w2.cell? ⟨w.heap.size, 1, none⟩ = some (.int .i64 t1) := (blk_cell T2.out 1).trans rfl
              have q0 : w2.cell? ⟨w.heap.size + 1, 0, none⟩ = some (.int .i64 x2) := (blk_cell B2.out 0).trans rfl
              have q1 : w2.cell? ⟨w.heap.size + 1, 1, none⟩ = some (.int .i64 y2) := (blk_cell B2.out 1).trans rfl
              have q2 : w2.cell? ⟨w.heap.size + 1, 2, none⟩ = some (.bool r2) := (blk_cell B2.out 2).trans rfl
              have q3 : w2.cell? ⟨w.heap.size + 1, 3, none⟩ = some (.bool u2) := (blk_cell B2.out 3).trans rfl
              go_wp2_with fail
              refine (impl_isCorner.calls t0 t1 x2 y2 r2 u2 true _ HCC.out).mono ?_
              rintro e w3 ⟨rfl, hb3⟩
              have C3 := Aside0.mk (C2.out.call hb3)
              clear hb3 C2 T2 B2 a0 a1 q0 q1 q2 q3
              go_wp2
              go_end0
              exact ⟨rfl, C3.out⟩
        · rw [if_neg c1] at fb2
          simp only [Option.some.injEq, Prod.mk.injEq] at fb2
          obtain ⟨rfl, rfl, rfl, rfl, rfl, rfl, rfl⟩ := fb2
          have d1 : decide (md < n) = false := by simpa using c1
          clear c1
          go_wp2_with fail
          refine (clo w0 _ md x2 y2 r2 u2 sd ac gb gt gs ge gf t0 t1 0 0 0 false false cc SZ.out D.out CB.out HCC.out).mono ?_
          rintro e w2 ⟨⟨-, hp⟩, hz2, hk2⟩
          obtain ⟨rfl, hc2⟩ := hp (by first | exact CE.out | exact fun h => CE.out ⟨h.1, trivial⟩)
          have C2 := Aside0.mk hc2
          have T2 := Aside0.mk ((hk2 _ HS.out.1.1 HS.out.1.2.1 HS.out.1.2.2.1 HS.out.1.2.2.2.1 (blk_lt TB.out)).trans TB.out)
          have B2 := Aside0.mk ((hk2 _ HS.out.2.1.1 HS.out.2.1.2.1 HS.out.2.1.2.2.1 HS.out.2.1.2.2.2.1 (blk_lt BB.out)).trans BB.out)
          clear hp hz2 hk2 hc2 CB TB BB q0 q1 q2 q3
          go_wp2
          go_end0
          exact ⟨rfl, C2.out⟩
    · rw [if_neg hsz] at fb; cases fb
end Go.Proofs.Ytiembijmopimgaa.CFol
