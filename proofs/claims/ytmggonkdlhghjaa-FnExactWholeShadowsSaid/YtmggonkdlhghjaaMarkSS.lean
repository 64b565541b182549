/- The walk of laws.markIntSS over rows that lie apart (Kd.S): it marks each row. Conditions: the plain function tells a result; the rows are the call's own (Kd.S). -/
import Derived.Test.YtmggonkdlhghjaaPFnExactWholeShadowsx2
import Derived.Deep.LoopGhost
namespace Go.Proofs.Ytmggonkdlhghjaa.MarkSS
open Go.RowKit Go.Proofs.Ytmggonkdlhghjaa.PFnExactWholeShadows Go.Proofs.YtmggonkdlhghjaaW.PrintWords
set_option linter.unusedVariables false
set_option linter.unusedSimpArgs false

theorem S_row {w : World} {base : Nat} {ok : Nat → Prop} {v : Value} {xs : List (List Int)} (h : Kd.S (Kd.slice 3 (Kd.int .i64)) 48 w base ok v xs) (i : Nat) (p : List Int) (hi : xs[i]? = some p) :
    ∃ (P0 : Nat → Prop) (u : Value) (g c : Nat), v = .slice (some ⟨g, 0, none⟩) xs.length c ∧ w.cell? ⟨g, i, none⟩ = some u ∧ Kd.R (Kd.int .i64) 3 w base P0 u p ∧ (∀ k, P0 k → ok k) ∧
      ∀ (w2 : World) (q : List Int), Kd.R (Kd.int .i64) 3 w2 base (fun k => P0 k ∨ w.heap.size ≤ k) u q → Kept w w2 P0 → Kd.S (Kd.slice 3 (Kd.int .i64)) 48 w2 base ok v (xs.set i q) := by
  obtain ⟨f, h0, inner, ho, hr⟩ := h
  obtain ⟨u, hcs, hR⟩ := hr.2 i (p, i) (Kd.zip_at hi)
  have hlt : i < xs.length := (List.getElem?_eq_some_iff.1 hi).1
  have hin : inner[i]? = some u := by
    have h1 := congrArg (fun l => l[0]?) hcs
    simpa [Kd.tag, Kd.slice] using h1
  refine ⟨fun k => (ok k ∧ some k ≠ v.ownBlock) ∧ f k = i, u, ?_⟩
  have ho' := ho
  rcases ho'.2 with ⟨rfl, hz⟩ | ⟨g, cap, cur, rfl, hg, hh, hn, hm, hs, ht⟩
  · rw [List.length_zipIdx] at hz; omega
  refine ⟨g, cap, by rw [List.length_zipIdx], ?_, hR, fun k hk => hk.1.1, ?_⟩
  · have e : cur[i]? = some u := by
      rw [← ht] at hin
      rw [List.getElem?_take] at hin
      split at hin
      · simpa using hin
      · cases hin
    simp [World.cell?, hh, e]
  · intro w2 q hq hk
    refine ⟨f, h0, inner, ?_, ?_, ?_⟩
    · have : (xs.set i q).zipIdx.length = xs.zipIdx.length := by simp
      rw [this]
      exact own_move ho (fun k hkb => hk.2 k (own_lt ho k hkb) (fun hp => hp.1.2 hkb.symm))
    · have := hr.1
      simpa using this
    · intro j x hx
      rw [List.getElem?_zipIdx] at hx
      simp only [Nat.zero_add, Option.map_eq_some_iff] at hx
      obtain ⟨y, hy, rfl⟩ := hx
      by_cases e : j = i
      · subst e
        rw [List.getElem?_set_self hlt] at hy
        obtain rfl := Option.some.inj hy
        exact ⟨u, hcs, Kd.R_mono (Kd.R_tight rfl hq) (fun k hk2 => hR.1 k hk2.symm)⟩
      · rw [List.getElem?_set_ne (fun h => e h.symm)] at hy
        have hm : (Kd.slice 3 (Kd.int .i64)).M w base (fun k => (ok k ∧ some k ≠ (Value.slice (some ⟨g, 0, none⟩) xs.zipIdx.length cap).ownBlock) ∧ f k = j) y ((inner.drop (j * 1)).take 1) := hr.2 j (y, j) (Kd.zip_at hy)
        have hm2 := Kd.M_kept (d := Kd.slice 3 (Kd.int .i64)) hm hk (fun k hk1 hk2 => e (hk1.2.symm.trans hk2.2))
        exact hm2

def l0 : Nat → List (List Int) → Int → Int → Option (Int × List (List Int))
  | 0, _, _, _ => none
  | k + 1, x0, x1, x5 => if x5 < (x0.length : Int) then (if 0 ≤ x5 then (laws_markIntS.f k (x0.getD x5.toNat []) x1).bind fun b => l0 k (x0.set x5.toNat b.2) b.1 (wrap64 (x5 + 1)) else none) else some (x1, x0)

set_option maxHeartbeats 1000000 in
set_option maxRecDepth 100000 in
theorem walk (k : Nat) (P : Nat → Prop) (v : Value) (l : List (List Int)) (a1 r1 : Int) (r2 : List (List Int)) (w0 w : World) (hB : Below w0.heap.size w0 w) (ho : Kd.S (Kd.slice 3 (Kd.int .i64)) 48 w w0.heap.size P v l) (h : l0 k l a1 0 = some (r1, r2)) :
    Calls Try.prog 13 #[v, .int .i64 a1] w fun e w' => e = .returned (.int .i64 r1) ∧ Kd.S (Kd.slice 3 (Kd.int .i64)) 48 w' w0.heap.size P v r2 ∧ Below w0.heap.size w0 w' ∧ Kept w w' P := by
  have HO := Aside0.mk ho
  have HB := Aside0.mk hB
  have H := Aside0.mk h
  obtain ⟨A, c, rfl⟩ := Kd.R_slice (Kd.S_R ho)
  clear ho hB h
  go_enter Try.func13, Try.ntmps13
  go_wp2_with fail
  go_loopg [1, 5] k (fun kq v1 v5 wr => ∃ (l' : List (List Int)) (x1 x5 : Int), v1 = .int .i64 x1 ∧ v5 = .int .i64 x5 ∧ Aside0 (l0 kq l' x1 x5 = some (r1, r2)) ∧ Aside0 (l'.length = l.length) ∧ Aside0 (Kd.S (Kd.slice 3 (Kd.int .i64)) 48 wr w0.heap.size P (.slice A l.length c) l') ∧ Aside0 (Below w0.heap.size w0 wr) ∧ Aside0 (Kept w wr P))
  case atStart => exact ⟨l, a1, 0, rfl, rfl, H, ⟨rfl⟩, HO, HB, ⟨Kept.refl _ _⟩⟩
  case round =>
    obtain ⟨l', x1, x5, rfl, rfl, H2, HL, HO2, HB2, HK2⟩ := hrel
    clear H HO HB
    rcases gk with _ | gk
    · have := H2.out; simp [l0] at this
    have hh := H2.out
    clear H2
    simp only [l0] at hh
    rw [HL.out] at hh
    by_cases c3 : x5 < (l.length : Int)
    · rw [if_pos c3] at hh
      by_cases c4 : 0 ≤ x5
      · rw [if_pos c4] at hh
        obtain ⟨⟨b1, b2⟩, hm, hr⟩ := Option.bind_eq_some_iff.mp hh
        have HM := Aside0.mk hm
        have HR := Aside0.mk hr
        clear hh hm hr
        have hi : l'[x5.toNat]? = some (l'.getD x5.toNat []) := by
          have := HL.out
          rw [List.getD_eq_getElem?_getD, List.getElem?_eq_getElem (by omega)]
          rfl
        obtain ⟨P0, u, g, c', hv, hcell, hR, hP, hset⟩ := S_row HO2.out x5.toNat _ hi
        injection hv with hA hlen hcap
        subst hA hcap
        have HRR := Aside0.mk hR
        have HS := Aside0.mk hset
        have HP := Aside0.mk hP
        clear hi hlen hR hset hP
        have d1 : decide (x5 < (l.length : Int)) = true := decide_eq_true c3
        go_wp2_with fail
        refine (laws_markIntS.calls gk P0 u (l'.getD x5.toNat []) x1 b1 b2 w0 wr HB2.out HRR.out HM.out).mono ?_
        rintro e w2 ⟨rfl, hr2, hb2, hk2⟩
        have HO3 := Aside0.mk (HS.out w2 b2 hr2 hk2)
        have HB3 := Aside0.mk hb2
        have HK3 := Aside0.mk (Kept.then_ HK2.out hk2 (fun k hk => Or.inl (HP.out k hk)))
        have HL3 : Aside0 ((l'.set x5.toNat b2).length = l.length) := ⟨by rw [List.length_set]; exact HL.out⟩
        clear hr2 hb2 hk2 HO2 HB2 HK2 HS HRR hcell
        go_wp2
        go_roundg gk
        case measure => omega
        case rel => exact ⟨l'.set x5.toNat b2, b1, wrap64 (x5 + 1), rfl, rfl, HR, HL3, HO3, HB3, HK3⟩
      · rw [if_neg c4] at hh; cases hh
    · rw [if_neg c3] at hh
      simp only [Option.some.injEq, Prod.mk.injEq] at hh
      obtain ⟨rfl, rfl⟩ := hh
      have d1 : decide (x5 < (l.length : Int)) = false := decide_eq_false c3
      clear c3
      go_wp2
      go_ret
      exact ⟨rfl, HO2.out, HB2.out, HK2.out⟩
end Go.Proofs.Ytmggonkdlhghjaa.MarkSS
