/- The plain law of FnLaddersWholeOfAll: for every argument the law as a plain function answers true. No condition. -/
import Derived.Test.YtkhhlnpiogfofaaDoorLWF
import Derived.Test.YtkhhlnpiogfofaaDoorLWList
import Derived.Test.YtkhhlnpiogfofaaDoorLWText
namespace Go.Proofs.YtkhhlnpiogfofaaDoor.LWMain
open Go.RowKit Go.Proofs.YtkhhlnpiogfofaaDoor.PFnLaddersWholeOfAll Go.Proofs.YtkhhlnpiogfofaaDoorW.PrintWords Go.Proofs.YtkhhlnpiogfofaaDoorW.PrintLast Go.Proofs.YtkhhlnpiogfofaaDoorW.PrintMore Go.Proofs.YtkhhlnpiogfofaaDoor.Given Go.Proofs.YtkhhlnpiogfofaaDoor.LWPure Go.Proofs.YtkhhlnpiogfofaaDoor.LWList Go.Proofs.YtkhhlnpiogfofaaDoor.LWText
set_option linter.unusedVariables false
set_option linter.unusedSimpArgs false

theorem s8 (k : Nat) (s : ByteArray) (o : Bool) (r0 r1 r2 : Int) (hP : o = true → impl_LaddersText.f r0 r1 r2 = some (s, true)) : laws_FnLaddersWholeOfAll.j8 (k + 1) s o false r0 r1 r2 = some true := by
  simp only [laws_FnLaddersWholeOfAll.j8]
  rw [if_neg (by decide)]
  cases o with
  | false => rfl
  | true =>
    rw [if_pos rfl, bind_eq (hP rfl)]
    simp
theorem s7 (k : Nat) (hk : 2000000000 ≤ k) (n : Int) (s : ByteArray) (x51 x55 : Bool) (u0 u1 u2 g0 g1 g2 r0 r1 r2 : Int)
    (hT : x51 = true → ∀ k, 2000000000 ≤ k → ∃ p q x y v w g h : Int, impl_CrossHeight.f k u0 u1 u2 = some (p, q, true) ∧ impl_CrossHeight.f k g0 g1 g2 = some (x, y, true) ∧ impl_SquaresOf.f u0 u1 u2 = some (v, w, true) ∧ impl_SquaresOf.f g0 g1 g2 = some (g, h, true) ∧
      wrap64 (x * q) = wrap64 (wrap64 (p * y) * n) ∧ g = wrap64 (wrap64 (v * n) * n) ∧ h = wrap64 (wrap64 (w * n) * n))
    (hP : x55 = true → impl_LaddersText.f r0 r1 r2 = some (s, true)) : laws_FnLaddersWholeOfAll.j7 (k + 2) n s x51 x55 u0 u1 u2 g0 g1 g2 r0 r1 r2 = some true := by
  simp only [laws_FnLaddersWholeOfAll.j7]
  cases x51 with
  | false =>
    rw [if_neg (by decide)]
    cases x55 with
    | false => rfl
    | true =>
      rw [if_pos rfl, bind_eq (hP rfl)]
      simp
  | true =>
    obtain ⟨p, q, x, y, v, w, g, h, e1, e2, e3, e4, e5, e6, e7⟩ := hT rfl (k + 1) (by omega)
    rw [if_pos rfl, bind_eq e1, bind_eq e2, bind_eq e3, bind_eq e4]
    simp only []
    rw [if_pos trivial, if_pos trivial, if_pos e5, if_pos trivial, if_pos trivial, if_pos e6]
    have e8 : (h != wrap64 (wrap64 (w * n) * n)) = false := by rw [e7]; exact bne_self_eq_false _
    rw [e8]
    exact s8 k s x55 r0 r1 r2 hP
theorem sl1 (a n m : Int) (s : ByteArray) (x46 x51 x55 : Bool) (R : List S23) (u0 u1 u2 b0 b1 b2 g0 g1 g2 r0 r1 r2 : Int) (hR : R.length ≤ 4000000)
    (h7 : ∀ k, 2000000002 ≤ k → laws_FnLaddersWholeOfAll.j7 k n s x51 x55 u0 u1 u2 g0 g1 g2 r0 r1 r2 = some true)
    (hW : ∀ (k : Nat) (i : Int), 2000000000 ≤ k → 0 ≤ i → i < (R.length : Int) → impl_IsWholeCrossing.f k (rd_T23 R i).f0 (rd_T23 R i).f1 (rd_T23 R i).f2 = some (true, true) ∧ (∃ p q : Int, impl_LengthsOf.f k (rd_T23 R i).f0 (rd_T23 R i).f1 (rd_T23 R i).f2 = some (p, q, true) ∧ p ≤ a ∧ q ≤ a) ∧ (rd_T23 R i).f2 ≤ (rd_T23 R i).f1 ∧ impl_CrossHeight.f k (rd_T23 R i).f0 (rd_T23 R i).f1 (rd_T23 R i).f2 = some (hx (rd_T23 R i), 1, true) ∧ m ≤ hx (rd_T23 R i))
    (j : Int) (hj : x46 = true → 0 ≤ j ∧ j < (R.length : Int) ∧ rd_T23 R j = ⟨b0, b1, b2⟩ ∧ hx (rd_T23 R j) = m) (cnt : Nat) :
    ∀ (i : Int) (fb : Bool) (k : Nat), 0 ≤ i → (R.length : Int) - i = cnt → (x46 = true → fb = true ∨ i ≤ j) → 2000000003 + cnt ≤ k →
      laws_FnLaddersWholeOfAll.l1 k a n s m x46 x51 x55 fb R (R.length : Int) i u0 u1 u2 b0 b1 b2 g0 g1 g2 r0 r1 r2 = some true := by
  induction cnt with
  | zero =>
    intro i fb k h0 h1 h2 hk
    obtain ⟨k, rfl⟩ : ∃ z, k = z + 1 := ⟨k - 1, by omega⟩
    simp only [laws_FnLaddersWholeOfAll.l1]
    rw [if_neg (by omega)]
    cases x46 with
    | false => exact h7 k (by omega)
    | true =>
      have hf : fb = true := by
        rcases h2 rfl with h | h
        · exact h
        · have := hj rfl
          omega
      rw [if_pos rfl, if_pos hf]
      exact h7 k (by omega)
  | succ cnt ih =>
    intro i fb k h0 h1 h2 hk
    obtain ⟨k, rfl⟩ : ∃ z, k = z + 1 := ⟨k - 1, by omega⟩
    have hlt : i < (R.length : Int) := by omega
    obtain ⟨f1, ⟨p, q, f2, f3, f4⟩, f5, f6, f7⟩ := hW k i (by omega) h0 hlt
    have w1 : wrap64 (i + 1) = i + 1 := wrap_id (by omega) (by omega)
    simp only [laws_FnLaddersWholeOfAll.l1]
    rw [if_pos hlt, if_pos h0, if_pos hlt, bind_eq f1, bind_eq f2, bind_eq f6]
    simp only []
    rw [if_pos trivial, if_pos trivial, if_pos trivial, if_neg (by omega), if_neg (by omega), if_neg (by omega), if_pos trivial, if_pos trivial, if_neg (by omega), w1]
    cases fb with
    | true =>
      rw [if_pos rfl]
      exact ih (i + 1) true k (by omega) (by omega) (fun _ => .inl rfl) (by omega)
    | false =>
      rw [if_neg (by decide)]
      by_cases c : ((rd_T23 R i).f0 == b0 && ((rd_T23 R i).f1 == b1 && ((rd_T23 R i).f2 == b2))) = true
      · rw [if_pos c]
        refine ih (i + 1) _ k (by omega) (by omega) (fun h => ?_) (by omega)
        obtain ⟨j0, j1, j2, j3⟩ := hj h
        rcases h2 h with h4 | h4
        · cases h4
        · by_cases e : i = j
          · left
            rw [e, j3]
            exact beq_self_eq_true _
          · right
            omega
      · rw [if_neg c]
        refine ih (i + 1) false k (by omega) (by omega) (fun h => ?_) (by omega)
        obtain ⟨j0, j1, j2, j3⟩ := hj h
        rcases h2 h with h4 | h4
        · cases h4
        · by_cases e : i = j
          · exfalso
            apply c
            rw [e, j2]
            simp
          · right
            omega
theorem sl0 (a b n m : Int) (s : ByteArray) (x41 x46 x51 x55 : Bool) (P : List (List Int)) (R : List S23) (u0 u1 u2 b0 b1 b2 g0 g1 g2 r0 r1 r2 : Int) (hP : P.length ≤ 1000) (K5 : Nat)
    (h5 : ∀ k, K5 ≤ k → laws_FnLaddersWholeOfAll.j5 k b n s R x41 m x46 x51 x55 u0 u1 u2 b0 b1 b2 g0 g1 g2 r0 r1 r2 = some true)
    (hr : ∀ i : Int, 0 ≤ i → i < (P.length : Int) → (rd_L1 P i).length = 2 ∧ rd (rd_L1 P i) 0 ≤ rd (rd_L1 P i) 1 ∧ a < rd (rd_L1 P i) 0 ∧ wrap64 (rd (rd_L1 P i) 0 * rd (rd_L1 P i) 1) = wrap64 (a * wrap64 (rd (rd_L1 P i) 0 + rd (rd_L1 P i) 1)))
    (hu : ∀ i : Int, 0 < i → i < (P.length : Int) → rd (rd_L1 P (i - 1)) 0 < rd (rd_L1 P i) 0) (cnt : Nat) :
    ∀ (i : Int) (k : Nat), 0 ≤ i → (P.length : Int) - i = cnt → K5 + 1 + cnt ≤ k →
      laws_FnLaddersWholeOfAll.l0 k a b n s P R x41 m x46 x51 x55 P (P.length : Int) i u0 u1 u2 b0 b1 b2 g0 g1 g2 r0 r1 r2 = some true := by
  induction cnt with
  | zero =>
    intro i k h0 h1 hk
    obtain ⟨k, rfl⟩ : ∃ z, k = z + 1 := ⟨k - 1, by omega⟩
    simp only [laws_FnLaddersWholeOfAll.l0]
    rw [if_neg (by omega)]
    exact h5 k (by omega)
  | succ cnt ih =>
    intro i k h0 h1 hk
    obtain ⟨k, rfl⟩ : ∃ z, k = z + 1 := ⟨k - 1, by omega⟩
    have hlt : i < (P.length : Int) := by omega
    obtain ⟨f1, f2, f3, f4⟩ := hr i h0 hlt
    have w1 : wrap64 (i + 1) = i + 1 := wrap_id (by omega) (by omega)
    have w2 : wrap64 (i - 1) = i - 1 := wrap_id (by omega) (by omega)
    simp only [laws_FnLaddersWholeOfAll.l0]
    rw [w1, w2, if_pos hlt, if_pos h0, if_pos hlt, if_pos (by omega), if_pos (by omega), if_pos (by omega), if_neg (by omega), if_neg (by omega), if_pos f4]
    by_cases c : i > 0
    · have f5 := hu i c hlt
      obtain ⟨f6, -⟩ := hr (i - 1) (by omega) (by omega)
      rw [if_pos c, if_pos (by omega), if_pos (by omega), if_pos (by omega), if_neg (by omega)]
      exact ih (i + 1) k (by omega) (by omega) (by omega)
    · rw [if_neg c]
      exact ih (i + 1) k (by omega) (by omega) (by omega)
set_option maxHeartbeats 2000000 in
theorem law (a0 a1 a2 n most u0 u1 u2 times : Int) (s : ByteArray) : ∃ k, laws_FnLaddersWholeOfAll.f k a0 a1 a2 n most u0 u1 u2 times s = some true := by
  by_cases hs : (s.size : Int) > 1048576
  · exact ⟨0, by simp only [laws_FnLaddersWholeOfAll.f]; rw [if_pos hs]⟩
  obtain ⟨Kh, P, o1, hh, hPl, hh2⟩ := hpart n
  obtain ⟨Kw, R, o2, b0, b1, b2, m, e2, hw, hRl, he, hw2⟩ := wpart most
  obtain ⟨g0, g1, g2, x51, ht⟩ := tall u0 u1 u2 times
  obtain ⟨Q, hQ⟩ : ∃ Q : Nat, Q = 2000000000 + Kh + Kw + 4001100 := ⟨_, rfl⟩
  obtain ⟨r0, r1, r2, x55, p1, p2, p3⟩ := ppart Q (by omega) s (by omega)
  have h7 : ∀ k, 2000000002 ≤ k → laws_FnLaddersWholeOfAll.j7 k times s x51 x55 u0 u1 u2 g0 g1 g2 r0 r1 r2 = some true := fun k hk => by
    obtain ⟨k, rfl⟩ : ∃ z, k = z + 2 := ⟨k - 2, by omega⟩
    exact s7 k (by omega) times s x51 x55 u0 u1 u2 g0 g1 g2 r0 r1 r2 (fun h k hk => (ht k hk).2.2 h) p3
  have h5 : ∀ k, 2000000000 + 4000010 ≤ k → laws_FnLaddersWholeOfAll.j5 k most times s R o2 m e2 x51 x55 u0 u1 u2 b0 b1 b2 g0 g1 g2 r0 r1 r2 = some true := fun k hk => by
    obtain ⟨k, rfl⟩ : ∃ z, k = z + 1 := ⟨k - 1, by omega⟩
    simp only [laws_FnLaddersWholeOfAll.j5]
    cases o2 with
    | false =>
      rw [if_neg (by decide)]
      exact h7 k (by omega)
    | true =>
      rw [if_pos rfl]
      obtain ⟨w1, w2⟩ := hw2 rfl
      rw [Bool.true_and] at he
      obtain ⟨j, hj⟩ : ∃ j : Int, e2 = true → 0 ≤ j ∧ j < (R.length : Int) ∧ rd_T23 R j = ⟨b0, b1, b2⟩ ∧ hx (rd_T23 R j) = m := by
        by_cases h : 0 < R.length
        · obtain ⟨j, hj⟩ := w2 h
          exact ⟨j, fun _ => hj⟩
        · exact ⟨0, fun h2 => by rw [he] at h2; have := of_decide_eq_true h2; omega⟩
      exact sl1 most times m s e2 x51 x55 R u0 u1 u2 b0 b1 b2 g0 g1 g2 r0 r1 r2 hRl h7 w1 j hj R.length 0 false k (by omega) (by omega) (fun h => .inr (hj h).1) (by omega)
  have h2 : laws_FnLaddersWholeOfAll.j2 Q n most times s P o1 (P.length : Int) R o2 m e2 x51 x55 false u0 u1 u2 b0 b1 b2 g0 g1 g2 r0 r1 r2 = some true := by
    obtain ⟨k, hk⟩ : ∃ z, Q = z + 2 := ⟨Q - 2, by omega⟩
    rw [hk]
    simp only [laws_FnLaddersWholeOfAll.j2]
    rw [if_neg (by decide)]
    cases o1 with
    | false =>
      rw [if_neg (by decide)]
      exact h5 (k + 1) (by omega)
    | true =>
      obtain ⟨q1, q2, q3⟩ := hh2 rfl
      have e : decide ((P.length : Int) < 1) = false := decide_eq_false (by omega)
      rw [if_pos rfl, if_pos trivial, e]
      simp only [laws_FnLaddersWholeOfAll.j3]
      rw [if_neg (by decide)]
      exact sl0 n most times m s o2 e2 x51 x55 P R u0 u1 u2 b0 b1 b2 g0 g1 g2 r0 r1 r2 hPl (2000000000 + 4000010) h5 q2 q3 P.length 0 k (by omega) (by omega) (by omega)
  have h1 : laws_FnLaddersWholeOfAll.j1 (Q + 1) n most times s u0 u1 u2 = some true := by
    obtain ⟨a1, a2, a3, a4, a5⟩ := hh Q (by omega)
    obtain ⟨c1, c2, c3, c4, c5⟩ := hw Q (by omega)
    obtain ⟨d1, d2, -⟩ := ht Q (by omega)
    simp only [laws_FnLaddersWholeOfAll.j1]
    rw [bind_eq a1, bind_eq a2, bind_eq a3, bind_eq a4, bind_eq c1, bind_eq c2, bind_eq c3, bind_eq c4, bind_eq d1, bind_eq d2, bind_eq p1, bind_eq p2]
    simp only [bne_self_eq_false, beq_self_eq_true, Bool.not_true, Bool.or_self, Bool.false_eq_true, if_false, if_true]
    rw [bind_eq a5]
    simp only [if_true]
    rw [bind_eq c5]
    simp only [if_true]
    cases o2 with
    | false =>
      rw [if_neg (by decide), he]
      rw [he] at h2
      exact h2
    | true =>
      have e : (e2 != decide ((R.length : Int) > 0)) = false := by rw [he]; simp
      rw [if_pos rfl, e]
      exact h2
  obtain ⟨t1, t2, t3, t4, o, e, t5, l1, l2, l3, l4, l5, l6, l7, l8, l9⟩ := lpart (Q + 2) (by omega) a0 a1 a2
  have h0 : laws_FnLaddersWholeOfAll.j0 (Q + 2) n most times s t1 t2 o t3 t4 e t5 false a0 a1 a2 u0 u1 u2 = some true := by
    simp only [laws_FnLaddersWholeOfAll.j0]
    rw [if_neg (by decide)]
    cases o with
    | false =>
      rw [if_neg (by decide)]
      exact h1
    | true =>
      obtain ⟨v1, v2, x1, x2, x3, x4, x5, x6⟩ := l9 rfl
      rw [if_pos rfl, bind_eq (x1 (Q + 1) (by omega)), if_pos x2, if_pos x3]
      cases e with
      | false =>
        rw [Bool.false_and] at x5
        subst x5
        simp only [bne_self_eq_false, Bool.false_eq_true, if_false, if_true]
        rw [if_neg (by omega)]
        exact h1
      | true =>
        rw [Bool.true_and] at x5
        obtain ⟨y1, y2, y3, y4⟩ := x6 rfl
        rw [if_pos rfl, if_pos y1, if_pos y2, if_neg (by omega), if_neg (by omega)]
        simp only [if_true]
        have e5 : (t5 != (v2 == 1)) = false := by rw [x5]; exact bne_self_eq_false _
        rw [if_neg (by omega), e5, if_neg (by decide)]
        exact h1
  refine ⟨Q + 2, ?_⟩
  simp only [laws_FnLaddersWholeOfAll.f]
  rw [if_neg hs, bind_eq l1, bind_eq l2, bind_eq l3, bind_eq l4, bind_eq l5, bind_eq l6]
  simp only [bne_self_eq_false, Bool.false_eq_true, if_false, if_true]
  rw [bind_eq l7]
  simp only [bne_self_eq_false, Bool.false_eq_true, if_false]
  cases e with
  | false => exact h0
  | true =>
    rw [if_pos rfl, l8 rfl]
    rw [l8 rfl] at h0
    exact h0
end Go.Proofs.YtkhhlnpiogfofaaDoor.LWMain
