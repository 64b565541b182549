/- Plain laws on the lists that FnLaddersWholeOfAll reaches. No condition beyond those that each theorem names. -/
import Derived.Test.YtkhhlnpiogfofaaDoorLWPure
import Derived.Test.YtkhhlnpiogfofaaDoorLW4
import Derived.Test.YtkhhlnpiogfofaaDoorLW5
import Derived.Test.YtkhhlnpiogfofaaDoorLW9
namespace Go.Proofs.YtkhhlnpiogfofaaDoor.LWList
open Go.RowKit Go.Proofs.YtkhhlnpiogfofaaDoor.PFnLaddersWholeOfAll Go.Proofs.YtkhhlnpiogfofaaDoorW.PrintWords Go.Proofs.YtkhhlnpiogfofaaDoorW.PrintLast Go.Proofs.YtkhhlnpiogfofaaDoorW.PrintMore Go.Proofs.YtkhhlnpiogfofaaDoor.Given Go.Proofs.YtkhhlnpiogfofaaDoor.LWPure
set_option linter.unusedVariables false
set_option linter.unusedSimpArgs false

theorem stepK {α : Type} {g f : Nat → Option α} {r : α} (K0 : Nat) (h : ∀ k, K0 ≤ k → g (k + 1) = f k) (hf : Ev f r) : Ev g r := by
  obtain ⟨K, hK⟩ := hf
  refine ⟨K + K0 + 1, fun k hk => ?_⟩
  obtain ⟨k, rfl⟩ : ∃ m, k = m + 1 := ⟨k - 1, by omega⟩
  rw [h k (by omega), hK k (by omega)]
theorem congrK {α : Type} {g f : Nat → Option α} {r : α} (K0 : Nat) (h : ∀ k, K0 ≤ k → g k = f k) (hf : Ev f r) : Ev g r := by
  obtain ⟨K, hK⟩ := hf
  exact ⟨K + K0, fun k hk => by rw [h k (by omega), hK k (by omega)]⟩

theorem bind_eq {α β : Type} {g : Option α} {a : α} (h : g = some a) (f : α → Option β) : g.bind f = f a := by rw [h]; rfl

theorem cofac {a d : Int} (ha : 1 ≤ a ∧ a ≤ 200) (hd : 1 ≤ d ∧ d ≤ a) (h : Int.tmod (a * a) d = 0) : ∃ e : Int, Int.tdiv (a * a) d = e ∧ a ≤ e ∧ e ≤ 40000 ∧ d * e = a * a := by
  have m := mulb (a := a) (b := a) (A := 200) (B := 200) (by omega) (by omega) (by omega) (by omega)
  have hdm := Int.mul_tdiv_add_tmod (a * a) d
  rw [h, Int.add_zero] at hdm
  refine ⟨_, rfl, ?_, ?_, hdm⟩
  · generalize Int.tdiv (a * a) d = e at *
    rcases Int.lt_or_le e a with h1 | h1
    · exfalso
      have h2 : d * e < a * a := by
        rcases Int.lt_or_le e 0 with h3 | h3
        · have := Int.mul_le_mul_of_nonneg_left (show e ≤ 0 by omega) (show 0 ≤ d by omega)
          have := Int.mul_pos (show 0 < a by omega) (show 0 < a by omega)
          omega
        · have h4 := Int.mul_le_mul_of_nonneg_right hd.2 h3
          have h5 := Int.mul_lt_mul_of_pos_left h1 (show 0 < a by omega)
          omega
      omega
    · exact h1
  · generalize Int.tdiv (a * a) d = e at *
    rcases Int.lt_or_le e 0 with h3 | h3
    · omega
    · have := Int.mul_le_mul_of_nonneg_right hd.1 h3
      omega
/-- A pair of heights for a. -/
def Row (a : Int) (x : List Int) : Prop := ∃ p q : Int, x = [p, q] ∧ p ≤ q ∧ a < p ∧ p ≤ 400 ∧ q ≤ 40200 ∧ p * q = a * (p + q)
theorem row_of {a d e : Int} (ha : 1 ≤ a ∧ a ≤ 200) (hd : 1 ≤ d ∧ d ≤ a) (he : a ≤ e ∧ e ≤ 40000) (h : d * e = a * a) : Row a [a + d, a + e] :=
  ⟨a + d, a + e, rfl, by omega, by omega, by omega, by omega, by grind⟩
structure Rows (a d : Int) (L : List (List Int)) : Prop where
  row : ∀ x ∈ L, Row a x
  low : ∀ x ∈ L, rd x 0 < a + d
  up : L.Pairwise fun x y => rd x 0 < rd y 0
  one : 1 < d → 0 < L.length
theorem Rows.snoc {a d e : Int} {L : List (List Int)} (h : Rows a d L) (hr : Row a [a + d, a + e]) : Rows a (d + 1) (L ++ [[a + d, a + e]]) where
  row := fun x hx => (List.mem_append.1 hx).elim (h.row x) (fun h2 => by rw [List.mem_singleton.1 h2]; exact hr)
  low := fun x hx => (List.mem_append.1 hx).elim (fun h2 => by have := h.low x h2; omega) (fun h2 => by rw [List.mem_singleton.1 h2]; simp only [rd]; simp; omega)
  up := List.pairwise_append.2 ⟨h.up, List.pairwise_singleton _ _, fun x hx y hy => by rw [List.mem_singleton.1 hy]; have := h.low x hx; simp only [rd] at *; simpa using this⟩
  one := fun _ => by simp
theorem Rows.keep {a d : Int} {L : List (List Int)} (h : Rows a d L) (hd : 1 < d) : Rows a (d + 1) L where
  row := h.row
  low := fun x hx => by have := h.low x hx; omega
  up := h.up
  one := fun _ => h.one hd
theorem pairs_l (a : Int) (ha : 1 ≤ a ∧ a ≤ 200) (n : Nat) : ∀ (L : List (List Int)) (d : Int), 1 ≤ d → a < d + n → d ≤ a + 1 → L.length + n ≤ 1000 → Rows a d L →
    ∃ R : List (List Int), Ev (fun k => spec_clPairs.l0 k a L d) R ∧ Ev (fun k => impl_PairsFor.l0 k a L d) (R, true) ∧ R.length ≤ 1000 ∧ Rows a (a + 1) R := by
  have m := mulb (a := a) (b := a) (A := 200) (B := 200) (by omega) (by omega) (by omega) (by omega)
  have wa : wrap64 (a * a) = a * a := wrap_id (by omega) (by omega)
  induction n with
  | zero =>
    intro L d h0 h1 h2 h3 hL
    obtain rfl : d = a + 1 := by omega
    refine ⟨L, Ev.step (f := fun _ => some L) (fun k => ?_) (Ev.now _), Ev.step (f := fun _ => some (L, true)) (fun k => ?_) (Ev.now _), by omega, hL⟩
    · simp only [spec_clPairs.l0]
      rw [if_neg (by omega)]
    · simp only [impl_PairsFor.l0]
      rw [if_neg (by omega)]
  | succ n ih =>
    intro L d h0 h1 h2 h3 hL
    by_cases c : d ≤ a
    · by_cases c2 : Int.tmod (a * a) d = 0
      · obtain ⟨e, he, he1, he2, he3⟩ := cofac ha ⟨h0, c⟩ c2
        obtain ⟨R, e1, e2, e3, e4⟩ := ih (L ++ [([a + d, a + e] : List Int)]) (d + 1) (by omega) (by omega) (by omega) (by simp; omega) (hL.snoc (row_of ha ⟨h0, c⟩ ⟨he1, he2⟩ he3))
        refine ⟨R, Ev.step (fun k => ?_) e1, Ev.step (fun k => ?_) e2, e3, e4⟩
        · simp only [spec_clPairs.l0]
          rw [wa, he, wrap_id (x := e) (by omega) (by omega), wrap_id (x := a + d) (by omega) (by omega), wrap_id (x := a + e) (by omega) (by omega), if_pos c, if_neg (by omega), if_pos c2, if_pos (by omega), wrap_id (x := d + 1) (by omega) (by omega)]
        · simp only [impl_PairsFor.l0]
          rw [wa, he, wrap_id (x := e) (by omega) (by omega), wrap_id (x := a + d) (by omega) (by omega), wrap_id (x := a + e) (by omega) (by omega), if_pos c, if_neg (by omega), if_pos c2, if_pos (by omega), wrap_id (x := d + 1) (by omega) (by omega)]
      · have hd1 : 1 < d := by
          rcases Int.lt_or_le 1 d with h | h
          · exact h
          · obtain rfl : d = 1 := by omega
            exact absurd (Int.tmod_one _) c2
        obtain ⟨R, e1, e2, e3, e4⟩ := ih L (d + 1) (by omega) (by omega) (by omega) (by omega) (hL.keep hd1)
        refine ⟨R, Ev.step (fun k => ?_) e1, Ev.step (fun k => ?_) e2, e3, e4⟩
        · simp only [spec_clPairs.l0]
          rw [wa, if_pos c, if_neg (by omega), if_neg c2, wrap_id (x := d + 1) (by omega) (by omega)]
        · simp only [impl_PairsFor.l0]
          rw [wa, if_pos c, if_neg (by omega), if_neg c2, wrap_id (x := d + 1) (by omega) (by omega)]
    · obtain rfl : d = a + 1 := by omega
      refine ⟨L, Ev.step (f := fun _ => some L) (fun k => ?_) (Ev.now _), Ev.step (f := fun _ => some (L, true)) (fun k => ?_) (Ev.now _), by omega, hL⟩
      · simp only [spec_clPairs.l0]
        rw [if_neg c]
      · simp only [impl_PairsFor.l0]
        rw [if_neg c]
def Good (a : Int) (x : S23) : Prop := 1 ≤ x.f0 ∧ x.f0 < a ∧ 1 ≤ x.f2 ∧ x.f2 ≤ x.f1 ∧ x.f1 < a ∧ Int.tmod (x.f1 * x.f2) (x.f1 + x.f2) = 0 ∧ (∃ t : Int, 0 ≤ t ∧ t ≤ a ∧ t * t = x.f0 * x.f0 + x.f1 * x.f1) ∧ (∃ t : Int, 0 ≤ t ∧ t ≤ a ∧ t * t = x.f0 * x.f0 + x.f2 * x.f2)
def HOk (a w : Int) (H : List Int) : Prop := H.length ≤ 150 ∧ (∀ h ∈ H, 1 ≤ h ∧ h < a ∧ ∃ t : Int, 0 ≤ t ∧ t ≤ a ∧ t * t = w * w + h * h) ∧ H.Pairwise (· < ·)
def Both (a : Int) (f : Nat → Option (List S23)) (g : Nat → Option (List S23 × Bool)) : Prop := ∃ R : List S23, Ev f R ∧ Ev g (R, true) ∧ R.length ≤ 4000000 ∧ ∀ x ∈ R, Good a x
theorem Both.step {a : Int} {f f' : Nat → Option (List S23)} {g g' : Nat → Option (List S23 × Bool)} (K : Nat) (h : Both a f g) (hf : ∀ k, K ≤ k → f' (k + 1) = f k) (hg : ∀ k, K ≤ k → g' (k + 1) = g k) : Both a f' g' := by
  obtain ⟨R, e1, e2, e3, e4⟩ := h
  exact ⟨R, stepK K hf e1, stepK K hg e2, e3, e4⟩
theorem rd_mem (l : List Int) (i : Int) (h0 : 0 ≤ i) (h1 : i < (l.length : Int)) : rd l i ∈ l := by
  unfold rd
  rw [List.getD_eq_getElem?_getD, List.getElem?_eq_getElem (by omega)]
  exact List.getElem_mem _
theorem rd_get (l : List Int) (i : Int) (h0 : 0 ≤ i) (h1 : i < (l.length : Int)) : l[i.toNat]? = some (rd l i) := by
  unfold rd
  rw [List.getD_eq_getElem?_getD, List.getElem?_eq_getElem (by omega)]
  rfl
theorem root_all (s : Int) (h0 : 0 ≤ s) (h1 : s ≤ 1099511627776) : ∃ t : Int, 0 ≤ t ∧ t * t ≤ s ∧ s < (t + 1) * (t + 1) ∧ ∀ k, 60 < k → spec_clRoot.f k s = some t ∧ ∃ r, impl_rootOf.f k s = some (r, t * t == s) := by
  obtain ⟨t, e, t0, t1, t2⟩ := clRoot_ev 61 s h0 h1 (by omega)
  refine ⟨t, t0, t1, t2, fun k hk => ?_⟩
  obtain ⟨t', e', t0', t1', t2'⟩ := clRoot_ev k s h0 h1 (by omega)
  have a1 : t < t' + 1 := sq_lt (by omega) (by omega)
  have a2 : t' < t + 1 := sq_lt (by omega) (by omega)
  have a3 : t' = t := by omega
  subst a3
  obtain ⟨t2, r, f1, f2, -⟩ := roots k s h0 h1 hk
  rw [e'] at f1
  obtain rfl := Option.some.inj f1
  exact ⟨e', r, f2⟩
theorem l3_both {a w left i : Int} {H y : List Int} (ha : a ≤ 150) (hw : 1 ≤ w ∧ w < a) (hl : 1 ≤ left ∧ left < a ∧ ∃ t : Int, 0 ≤ t ∧ t ≤ a ∧ t * t = w * w + left * left)
    (hy : ∀ h ∈ y, 1 ≤ h ∧ h ≤ left ∧ ∃ t : Int, 0 ≤ t ∧ t ≤ a ∧ t * t = w * w + h * h) (hy2 : y.length ≤ 150) (B : Nat) (hB : B ≤ 4000000)
    (Hc : ∀ L' : List S23, L'.length ≤ B → (∀ x ∈ L', Good a x) → Both a (fun k => spec_clAll.l2 k a L' w H H (H.length : Int) (wrap64 (i + 1))) (fun k => impl_WholeCrossings.l2 k a L' w H H (H.length : Int) (wrap64 (i + 1)))) (n : Nat) :
    ∀ (L : List S23) (j : Int), 0 ≤ j → (y.length : Int) - j = n → L.length + n ≤ B → (∀ x ∈ L, Good a x) →
      Both a (fun k => spec_clAll.l3 k a L w H left H (H.length : Int) i y (y.length : Int) j) (fun k => impl_WholeCrossings.l3 k a L w H left H (H.length : Int) i y (y.length : Int) j) := by
  induction n with
  | zero =>
    intro L j h0 h1 h2 h3
    refine Both.step 0 (Hc L (by omega) h3) (fun k _ => ?_) (fun k _ => ?_)
    · simp only [spec_clAll.l3]
      rw [if_neg (by omega)]
    · simp only [impl_WholeCrossings.l3]
      rw [if_neg (by omega)]
  | succ n ih =>
    intro L j h0 h1 h2 h3
    have hj : j < (y.length : Int) := by omega
    obtain ⟨r1, r2, r3⟩ := hy _ (rd_mem y j h0 hj)
    generalize hr : rd y j = r at r1 r2 r3
    have hb := mulb (a := left) (b := r) (A := 150) (B := 150) (by omega) (by omega) (by omega) (by omega)
    have w1 : wrap64 (left + r) = left + r := wrap_id (by omega) (by omega)
    have w2 : wrap64 (left * r) = left * r := wrap_id (by omega) (by omega)
    have w3 : wrap64 (j + 1) = j + 1 := wrap_id (by omega) (by omega)
    by_cases c : Int.tmod (left * r) (left + r) = 0
    · refine Both.step 0 (ih (L ++ [(⟨w, left, r⟩ : S23)]) (j + 1) (by omega) (by omega) (by rw [List.length_append, List.length_singleton]; omega) (fun x hx => ?_)) (fun k _ => ?_) (fun k _ => ?_)
      · rcases List.mem_append.1 hx with h | h
        · exact h3 x h
        · rw [List.mem_singleton.1 h]
          exact ⟨hw.1, hw.2, r1, r2, hl.2.1, c, hl.2.2, r3⟩
      · simp only [spec_clAll.l3]
        rw [if_pos hj, if_pos h0, if_pos hj, hr, w1, w2, w3, if_neg (by omega), if_pos c, if_pos (by omega)]
      · simp only [impl_WholeCrossings.l3]
        rw [if_pos hj, if_pos h0, if_pos hj, hr, w1, w2, w3, if_neg (by omega), if_pos c, if_pos (by omega)]
    · refine Both.step 0 (ih L (j + 1) (by omega) (by omega) (by omega) h3) (fun k _ => ?_) (fun k _ => ?_)
      · simp only [spec_clAll.l3]
        rw [if_pos hj, if_pos h0, if_pos hj, hr, w1, w2, w3, if_neg (by omega), if_neg c]
      · simp only [impl_WholeCrossings.l3]
        rw [if_pos hj, if_pos h0, if_pos hj, hr, w1, w2, w3, if_neg (by omega), if_neg c]
theorem l2_both {a w : Int} {H : List Int} (ha : a ≤ 150) (hw : 1 ≤ w ∧ w < a) (hH : HOk a w H) (B : Nat) (hB : B ≤ 4000000)
    (Hc : ∀ L' : List S23, L'.length ≤ B → (∀ x ∈ L', Good a x) → Both a (fun k => spec_clAll.l0 k a L' (wrap64 (w + 1))) (fun k => impl_WholeCrossings.l0 k a L' (wrap64 (w + 1)))) (n : Nat) :
    ∀ (L : List S23) (i : Int), 0 ≤ i → (H.length : Int) - i = n → L.length + 150 * n ≤ B → (∀ x ∈ L, Good a x) →
      Both a (fun k => spec_clAll.l2 k a L w H H (H.length : Int) i) (fun k => impl_WholeCrossings.l2 k a L w H H (H.length : Int) i) := by
  obtain ⟨h150, hall, hup⟩ := hH
  induction n with
  | zero =>
    intro L i h0 h1 h2 h3
    refine Both.step 0 (Hc L (by omega) h3) (fun k _ => ?_) (fun k _ => ?_)
    · simp only [spec_clAll.l2]
      rw [if_neg (by omega)]
    · simp only [impl_WholeCrossings.l2]
      rw [if_neg (by omega)]
  | succ n ih =>
    intro L i h0 h1 h2 h3
    have hi : i < (H.length : Int) := by omega
    have w1 : wrap64 (i + 1) = i + 1 := wrap_id (by omega) (by omega)
    have hlen : (H.take (i + 1).toNat).length = (i + 1).toNat := by rw [List.length_take]; omega
    have hmem := rd_mem H i h0 hi
    have hgi := rd_get H i h0 hi
    refine Both.step 0 (l3_both (a := a) (w := w) (left := rd H i) (i := i) (H := H) (y := H.take (i + 1).toNat) ha hw (hall _ hmem) (fun h hh => ?_) (by omega) (L.length + 150) (by omega) (fun L' h4 h5 => ?_) (i + 1).toNat L 0 (by omega) (by omega) (by omega) h3) (fun k _ => ?_) (fun k _ => ?_)
    · obtain ⟨b1, b2, b3⟩ := hall _ (List.mem_of_mem_take hh)
      refine ⟨b1, ?_, b3⟩
      obtain ⟨j, hj, hjh⟩ := List.getElem_of_mem hh
      rw [List.getElem_take] at hjh
      rw [hlen] at hj
      rcases Nat.lt_or_ge j i.toNat with h | h
      · have := List.pairwise_iff_getElem.1 hup j i.toNat (by omega) (by omega) h
        rw [List.getElem?_eq_getElem (by omega)] at hgi
        have e := Option.some.inj hgi
        rw [e, hjh] at this
        omega
      · have ej : j = i.toNat := by omega
        subst ej
        rw [List.getElem?_eq_getElem (by omega)] at hgi
        have e := Option.some.inj hgi
        omega
    · rw [w1]
      exact ih L' (i + 1) (by omega) (by omega) (by omega) h5
    · simp only [spec_clAll.l2, Option.bind_some]
      rw [if_pos hi, if_pos h0, if_pos hi, w1, if_pos (by omega), if_pos (by omega)]
    · simp only [impl_WholeCrossings.l2, Option.bind_some]
      rw [if_pos hi, if_pos h0, if_pos hi, w1, if_pos (by omega), if_pos (by omega)]
theorem l1_tail {a w : Int} {L : List S23} {H : List Int} {R : List S23} (ha : 1 ≤ a ∧ a ≤ 150) (hw : 1 ≤ w ∧ w < a) (hR : Ev (fun k => spec_clAll.l2 k a L w H H (H.length : Int) 0) R) (n : Nat) :
    ∀ (i : Int), 1 ≤ i → a ≤ i + n → i ≤ 150 → a * a < w * w + i * i → Ev (fun k => spec_clAll.l1 k a L w H i) R := by
  induction n with
  | zero =>
    intro i h0 h1 h2 h3
    refine stepK 0 (fun k _ => ?_) hR
    simp only [spec_clAll.l1]
    rw [if_neg (by omega)]
  | succ n ih =>
    intro i h0 h1 h2 h3
    by_cases hlt : i < a
    · have m1 := mulb (a := w) (b := w) (A := 150) (B := 150) (by omega) (by omega) (by omega) (by omega)
      have m2 := mulb (a := i) (b := i) (A := 150) (B := 150) (by omega) (by omega) (by omega) (by omega)
      obtain ⟨t, t0, t1, t2, ht⟩ := root_all (w * w + i * i) (by omega) (by omega)
      have tb : t < 1000 := by
        refine sq_lt (by omega) ?_
        omega
      have tm := mulb (a := t) (b := t) (A := 1000) (B := 1000) (by omega) (by omega) (by omega) (by omega)
      have hii : i * i ≤ (i + 1) * (i + 1) := Int.mul_le_mul (by omega) (by omega) (by omega) (by omega)
      refine stepK 61 (fun k hk => ?_) (ih (i + 1) (by omega) (by omega) (by omega) (by omega))
      simp only [spec_clAll.l1]
      rw [if_pos hlt, wrap_id (x := w * w) (by omega) (by omega), wrap_id (x := i * i) (by omega) (by omega), wrap_id (x := w * w + i * i) (by omega) (by omega), bind_eq (ht k (by omega)).1, wrap_id (x := t * t) (by omega) (by omega), wrap_id (x := i + 1) (by omega) (by omega)]
      by_cases c : t * t = w * w + i * i
      · have c2 : ¬ t ≤ a := fun h => by
          have := Int.mul_le_mul h h t0 (by omega)
          omega
        rw [if_pos c, if_neg c2]
      · rw [if_neg c]
    · refine stepK 0 (fun k _ => ?_) hR
      simp only [spec_clAll.l1]
      rw [if_neg hlt]
theorem l1_both {a w : Int} {L : List S23} (ha : 1 ≤ a ∧ a ≤ 150) (hw : 1 ≤ w ∧ w < a)
    (Hc : ∀ H : List Int, HOk a w H → Both a (fun k => spec_clAll.l2 k a L w H H (H.length : Int) 0) (fun k => impl_WholeCrossings.l2 k a L w H H (H.length : Int) 0)) (n : Nat) :
    ∀ (H : List Int) (i : Int), 1 ≤ i → a = i + n → (H.length : Int) < i → HOk a w H → (∀ h ∈ H, h < i) →
      Both a (fun k => spec_clAll.l1 k a L w H i) (fun k => impl_WholeCrossings.l1 k a L w H i) := by
  have m1 := mulb (a := w) (b := w) (A := 150) (B := 150) (by omega) (by omega) (by omega) (by omega)
  have m3 := mulb (a := a) (b := a) (A := 150) (B := 150) (by omega) (by omega) (by omega) (by omega)
  have m4 : 1 ≤ w * w := by
    have := Int.mul_le_mul hw.1 hw.1 (by omega) (by omega)
    omega
  have stop : ∀ (H : List Int) (i : Int), 1 ≤ i → i ≤ a → HOk a w H → a * a < w * w + i * i → Both a (fun k => spec_clAll.l1 k a L w H i) (fun k => impl_WholeCrossings.l1 k a L w H i) := fun H i h0 h1 hH h3 => by
    obtain ⟨R, e1, e2, e3, e4⟩ := Hc H hH
    have m2 := mulb (a := i) (b := i) (A := 150) (B := 150) (by omega) (by omega) (by omega) (by omega)
    refine ⟨R, l1_tail ha hw e1 (a - i).toNat i h0 (by omega) (by omega) h3, stepK 0 (fun k _ => ?_) e2, e3, e4⟩
    simp only [impl_WholeCrossings.l1]
    rw [wrap_id (x := w * w) (by omega) (by omega), wrap_id (x := i * i) (by omega) (by omega), wrap_id (x := a * a) (by omega) (by omega), wrap_id (x := w * w + i * i) (by omega) (by omega), if_neg (by omega)]
  induction n with
  | zero =>
    intro H i h0 h1 h2 hH h3
    have e : a = i := by omega
    subst e
    exact stop H a h0 (by omega) hH (by omega)
  | succ n ih =>
    intro H i h0 h1 h2 hH h3
    have m2 := mulb (a := i) (b := i) (A := 150) (B := 150) (by omega) (by omega) (by omega) (by omega)
    by_cases c0 : a * a < w * w + i * i
    · exact stop H i h0 (by omega) hH c0
    · obtain ⟨t, t0, t1, t2, ht⟩ := root_all (w * w + i * i) (by omega) (by omega)
      have tb : t < 1000 := by
        refine sq_lt (by omega) ?_
        omega
      have tm := mulb (a := t) (b := t) (A := 1000) (B := 1000) (by omega) (by omega) (by omega) (by omega)
      have ta : t ≤ a := by
        have : t < a + 1 := sq_lt (by omega) (by rw [Int.add_mul, Int.mul_add]; omega)
        omega
      have w1 : wrap64 (w * w) = w * w := wrap_id (by omega) (by omega)
      have w2 : wrap64 (i * i) = i * i := wrap_id (by omega) (by omega)
      have w3 : wrap64 (w * w + i * i) = w * w + i * i := wrap_id (by omega) (by omega)
      have w4 : wrap64 (a * a) = a * a := wrap_id (by omega) (by omega)
      have w5 : wrap64 (i + 1) = i + 1 := wrap_id (by omega) (by omega)
      have w6 : wrap64 (t * t) = t * t := wrap_id (by omega) (by omega)
      by_cases c : t * t = w * w + i * i
      · refine Both.step 61 (ih (H ++ [i]) (i + 1) (by omega) (by omega) (by rw [List.length_append, List.length_singleton]; omega) ⟨?_, fun h hh => ?_, ?_⟩ (fun h hh => ?_)) (fun k hk => ?_) (fun k hk => ?_)
        · rw [List.length_append, List.length_singleton]; omega
        · rcases List.mem_append.1 hh with h4 | h4
          · exact hH.2.1 h h4
          · rw [List.mem_singleton.1 h4]
            exact ⟨h0, by omega, t, t0, ta, c⟩
        · refine List.pairwise_append.2 ⟨hH.2.2, List.pairwise_singleton _ _, fun x hx y hy => ?_⟩
          rw [List.mem_singleton.1 hy]
          exact h3 x hx
        · rcases List.mem_append.1 hh with h4 | h4
          · have := h3 h h4
            omega
          · rw [List.mem_singleton.1 h4]
            omega
        · simp only [spec_clAll.l1]
          rw [if_pos (by omega), w1, w2, w3, bind_eq (ht k (by omega)).1, w5, w6, if_pos c, if_pos ta, if_pos (by omega)]
        · obtain ⟨r, hr⟩ := (ht k (by omega)).2
          simp only [impl_WholeCrossings.l1]
          rw [w1, w2, w3, w4, if_pos (by omega), bind_eq hr, w5, if_pos (by simpa using c), if_pos (by omega)]
      · refine Both.step 61 (ih H (i + 1) (by omega) (by omega) (by omega) hH (fun h hh => by have := h3 h hh; omega)) (fun k hk => ?_) (fun k hk => ?_)
        · simp only [spec_clAll.l1]
          rw [if_pos (by omega), w1, w2, w3, bind_eq (ht k (by omega)).1, w5, w6, if_neg c]
        · obtain ⟨r, hr⟩ := (ht k (by omega)).2
          simp only [impl_WholeCrossings.l1]
          rw [w1, w2, w3, w4, if_pos (by omega), bind_eq hr, w5, if_neg (by simpa using c)]
theorem l0_both {a : Int} (ha : 1 ≤ a ∧ a ≤ 150) (n : Nat) : ∀ (L : List S23) (w : Int), 1 ≤ w → a = w + n → (L.length : Int) ≤ 22500 * (w - 1) → (∀ x ∈ L, Good a x) →
    Both a (fun k => spec_clAll.l0 k a L w) (fun k => impl_WholeCrossings.l0 k a L w) := by
  induction n with
  | zero =>
    intro L w h0 h1 h2 h3
    refine ⟨L, stepK 0 (f := fun _ => some L) (fun k _ => ?_) (Ev.now _), stepK 0 (f := fun _ => some (L, true)) (fun k _ => ?_) (Ev.now _), by omega, h3⟩
    · simp only [spec_clAll.l0]
      rw [if_neg (by omega)]
    · simp only [impl_WholeCrossings.l0]
      rw [if_neg (by omega)]
  | succ n ih =>
    intro L w h0 h1 h2 h3
    have w1 : wrap64 (w + 1) = w + 1 := wrap_id (by omega) (by omega)
    refine Both.step 0 (l1_both (a := a) (w := w) (L := L) ha ⟨h0, by omega⟩ (fun H hH => ?_) (a - 1).toNat [] 1 (by omega) (by omega) (by simp) ⟨by simp, by simp, List.Pairwise.nil⟩ (by simp)) (fun k _ => ?_) (fun k _ => ?_)
    · have h150 := hH.1
      refine l2_both (by omega) ⟨h0, by omega⟩ hH (22500 * w).toNat (by omega) (fun L' h4 h5 => ?_) H.length L 0 (by omega) (by omega) (by omega) h3
      rw [w1]
      exact ih L' (w + 1) (by omega) (by omega) (by omega) h5
    · simp only [spec_clAll.l0]
      rw [if_pos (by omega)]
    · simp only [impl_WholeCrossings.l0]
      rw [if_pos (by omega)]
/-- Both sides tell the same ladders. -/
theorem all_both {a : Int} (ha : 1 ≤ a ∧ a ≤ 150) : ∃ R : List S23, Ev (fun k => spec_clAll.f k a) R ∧ Ev (fun k => impl_WholeCrossings.f k a) (R, true) ∧ R.length ≤ 4000000 ∧ ∀ x ∈ R, Good a x := by
  obtain ⟨R, e1, e2, e3, e4⟩ := l0_both ha (a - 1).toNat [] 1 (by omega) (by omega) (by simp) (by simp)
  refine ⟨R, e1, congrK 0 (fun k _ => ?_) e2, e3, e4⟩
  simp only [impl_WholeCrossings.f, within_eq, Option.bind_some]
  rw [if_pos (decide_eq_true ha)]
theorem all_none {a : Int} (ha : ¬ (1 ≤ a ∧ a ≤ 150)) : Ev (fun k => impl_WholeCrossings.f k a) (([] : List S23), false) := by
  refine ⟨0, fun k _ => ?_⟩
  simp only [impl_WholeCrossings.f, within_eq, Option.bind_some]
  rw [if_neg (by simpa using ha)]
def hx (x : S23) : Int := Int.tdiv (x.f1 * x.f2) (x.f1 + x.f2)
theorem cross_pos {a : Int} {x : S23} (ha : a ≤ 150) (h : Good a x) : 1 ≤ hx x ∧ hx x ≤ 22500 ∧ 0 ≤ x.f1 * x.f2 ∧ x.f1 * x.f2 ≤ 22500 ∧ x.f1 * x.f2 = hx x * (x.f1 + x.f2) := by
  unfold hx
  obtain ⟨g1, g2, g3, g4, g5, g6, -, -⟩ := h
  have hb := mulb (a := x.f1) (b := x.f2) (A := 150) (B := 150) (by omega) (by omega) (by omega) (by omega)
  have hp : 1 ≤ x.f1 * x.f2 := by
    have := Int.mul_le_mul (show (1 : Int) ≤ x.f1 by omega) g3 (by omega) (by omega)
    omega
  have hd := Int.mul_tdiv_add_tmod (x.f1 * x.f2) (x.f1 + x.f2)
  rw [g6] at hd
  rw [Int.tdiv_eq_ediv_of_nonneg (by omega)] at hd ⊢
  have h0 : 0 ≤ x.f1 * x.f2 / (x.f1 + x.f2) := Int.ediv_nonneg (by omega) (by omega)
  have h2 : x.f1 * x.f2 / (x.f1 + x.f2) ≤ x.f1 * x.f2 := Int.ediv_le_self _ (by omega)
  refine ⟨?_, by omega, hb.1, by omega, ?_⟩
  · by_cases c : x.f1 * x.f2 / (x.f1 + x.f2) = 0
    · rw [c, Int.mul_zero] at hd
      omega
    · omega
  · rw [Int.mul_comm (x.f1 * x.f2 / (x.f1 + x.f2))]
    omega
theorem rdT_mem (l : List S23) (i : Int) (h0 : 0 ≤ i) (h1 : i < (l.length : Int)) : rd_T23 l i ∈ l := by
  unfold rd_T23
  rw [List.getD_eq_getElem?_getD, List.getElem?_eq_getElem (by omega)]
  exact List.getElem_mem _
def Low (R : List S23) (i m b0 b1 b2 : Int) : Prop := 0 ≤ m ∧ (m = 0 → b0 = 0 ∧ b1 = 0 ∧ b2 = 0 ∧ i = 0) ∧ (0 < m → ∃ j : Int, 0 ≤ j ∧ j < i ∧ rd_T23 R j = ⟨b0, b1, b2⟩ ∧ hx (rd_T23 R j) = m) ∧ (∀ j : Int, 0 ≤ j → j < i → m ≤ hx (rd_T23 R j))
theorem Low.new {R : List S23} {i m b0 b1 b2 : Int} (h : Low R i m b0 b1 b2) (h0 : 0 ≤ i) (h1 : 1 ≤ hx (rd_T23 R i)) (h2 : m = 0 ∨ hx (rd_T23 R i) < m) : Low R (i + 1) (hx (rd_T23 R i)) (rd_T23 R i).f0 (rd_T23 R i).f1 (rd_T23 R i).f2 := by
  obtain ⟨a1, a2, a3, a4⟩ := h
  refine ⟨by omega, fun h => by omega, fun _ => ⟨i, h0, by omega, rfl, rfl⟩, fun j j0 j1 => ?_⟩
  by_cases e : j = i
  · rw [e]; exact Int.le_refl _
  · rcases h2 with h2 | h2
    · have := (a2 h2).2.2.2
      omega
    · have := a4 j j0 (by omega)
      omega
theorem Low.keep {R : List S23} {i m b0 b1 b2 : Int} (h : Low R i m b0 b1 b2) (h0 : 0 ≤ i) (h1 : m ≠ 0) (h2 : m ≤ hx (rd_T23 R i)) : Low R (i + 1) m b0 b1 b2 := by
  obtain ⟨a1, a2, a3, a4⟩ := h
  refine ⟨a1, fun h => absurd h h1, fun h => ?_, fun j j0 j1 => ?_⟩
  · obtain ⟨j, x1, x2, x3, x4⟩ := a3 h
    exact ⟨j, x1, by omega, x3, x4⟩
  · by_cases e : j = i
    · rw [e]; exact h2
    · exact a4 j j0 (by omega)
theorem low_l {a : Int} (ha : a ≤ 150) {R : List S23} (hR : ∀ x ∈ R, Good a x) (hl : R.length ≤ 4000000) (n : Nat) : ∀ (m i b0 b1 b2 : Int), 0 ≤ i → (R.length : Int) - i = n → Low R i m b0 b1 b2 →
    ∃ m' b0' b1' b2' : Int, Ev (fun k => spec_LowestWhole.l0 k m R (R.length : Int) i b0 b1 b2) (b0', b1', b2', m', decide (m' > 0)) ∧ Ev (fun k => impl_LowestWhole.l0 k m R (R.length : Int) i b0 b1 b2) (b0', b1', b2', m', decide (m' > 0)) ∧ Low R (R.length : Int) m' b0' b1' b2' := by
  induction n with
  | zero =>
    intro m i b0 b1 b2 h0 h1 hL
    obtain rfl : i = (R.length : Int) := by omega
    have h2 := hL.1
    have h3 := hL.2.1
    refine ⟨m, b0, b1, b2, stepK 0 (f := fun _ => some (b0, b1, b2, m, decide (m > 0))) (fun k _ => ?_) (Ev.now _), stepK 0 (f := fun _ => some (b0, b1, b2, m, decide (m > 0))) (fun k _ => ?_) (Ev.now _), hL⟩
    · simp only [spec_LowestWhole.l0]
      rw [if_neg (by omega)]
      by_cases c : m = 0
      · obtain ⟨rfl, rfl, rfl, -⟩ := h3 c
        subst c
        rfl
      · rw [if_neg c, decide_eq_true (show m > 0 by omega)]
    · simp only [impl_LowestWhole.l0]
      rw [if_neg (by omega)]
  | succ n ih =>
    intro m i b0 b1 b2 h0 h1 hL
    have hi : i < (R.length : Int) := by omega
    have hg := hR _ (rdT_mem R i h0 hi)
    obtain ⟨c1, c2, c3, c4, -⟩ := cross_pos ha hg
    have N1 := fun h => hL.new h0 c1 h
    have N2 := fun h => hL.keep h0 h
    obtain ⟨g1, g2, g3, g4, g5, -⟩ := hg
    obtain ⟨x, hx1⟩ : ∃ x, rd_T23 R i = x := ⟨_, rfl⟩
    rw [hx1] at c1 c2 c3 c4 g1 g2 g3 g4 g5 N1 N2
    unfold hx at c1 c2 N1 N2
    have w1 : wrap64 (x.f1 + x.f2) = x.f1 + x.f2 := wrap_id (by omega) (by omega)
    have w2 : wrap64 (x.f1 * x.f2) = x.f1 * x.f2 := wrap_id (by omega) (by omega)
    have w3 : wrap64 (Int.tdiv (x.f1 * x.f2) (x.f1 + x.f2)) = Int.tdiv (x.f1 * x.f2) (x.f1 + x.f2) := wrap_id (by omega) (by omega)
    have w4 : wrap64 (i + 1) = i + 1 := wrap_id (by omega) (by omega)
    by_cases c : m = 0
    · obtain ⟨m', b0', b1', b2', e1, e2, e3⟩ := ih (Int.tdiv (x.f1 * x.f2) (x.f1 + x.f2)) (i + 1) x.f0 x.f1 x.f2 (by omega) (by omega) (N1 (.inl c))
      refine ⟨m', b0', b1', b2', stepK 0 (fun k _ => ?_) e1, stepK 0 (fun k _ => ?_) e2, e3⟩
      · simp only [spec_LowestWhole.l0]
        rw [if_pos hi, if_pos h0, if_pos hi, hx1, w1, w2, w3, w4, if_neg (by omega), if_pos c]
      · simp only [impl_LowestWhole.l0]
        rw [if_pos hi, if_pos h0, if_pos hi, hx1, w1, w2, w3, w4, if_neg (by omega), if_pos c]
    · by_cases c5 : Int.tdiv (x.f1 * x.f2) (x.f1 + x.f2) < m
      · obtain ⟨m', b0', b1', b2', e1, e2, e3⟩ := ih (Int.tdiv (x.f1 * x.f2) (x.f1 + x.f2)) (i + 1) x.f0 x.f1 x.f2 (by omega) (by omega) (N1 (.inr c5))
        refine ⟨m', b0', b1', b2', stepK 0 (fun k _ => ?_) e1, stepK 0 (fun k _ => ?_) e2, e3⟩
        · simp only [spec_LowestWhole.l0]
          rw [if_pos hi, if_pos h0, if_pos hi, hx1, w1, w2, w3, w4, if_neg (by omega), if_neg c, if_pos c5]
        · simp only [impl_LowestWhole.l0]
          rw [if_pos hi, if_pos h0, if_pos hi, hx1, w1, w2, w3, w4, if_neg (by omega), if_neg c, if_pos c5]
      · obtain ⟨m', b0', b1', b2', e1, e2, e3⟩ := ih m (i + 1) b0 b1 b2 (by omega) (by omega) (N2 c (by omega))
        refine ⟨m', b0', b1', b2', stepK 0 (fun k _ => ?_) e1, stepK 0 (fun k _ => ?_) e2, e3⟩
        · simp only [spec_LowestWhole.l0]
          rw [if_pos hi, if_pos h0, if_pos hi, hx1, w1, w2, w3, w4, if_neg (by omega), if_neg c, if_neg c5]
        · simp only [impl_LowestWhole.l0]
          rw [if_pos hi, if_pos h0, if_pos hi, hx1, w1, w2, w3, w4, if_neg (by omega), if_neg c, if_neg c5]
theorem same_l (n : Nat) : ∀ (l : List Int) (i : Int), 0 ≤ i → (l.length : Int) - i = n → l.length ≤ 4000000 → Ev (fun k => laws_jSame.l0 k l l (l.length : Int) i) true := by
  induction n with
  | zero =>
    intro l i h0 h1 h2
    refine Ev.step (f := fun _ => some true) (fun k => ?_) (Ev.now _)
    simp only [laws_jSame.l0]
    rw [if_neg (by omega)]
  | succ n ih =>
    intro l i h0 h1 h2
    refine Ev.step (fun k => ?_) (ih l (i + 1) (by omega) (by omega) h2)
    simp only [laws_jSame.l0]
    rw [if_pos (by omega), if_pos h0, if_pos (by omega), if_pos (by omega), if_pos trivial, wrap_id (x := i + 1) (by omega) (by omega)]
theorem same_ev (l : List Int) (h : l.length ≤ 4000000) : Ev (fun k => laws_jSame.f k l l) true := by
  refine congrK 0 (f := fun k => laws_jSame.l0 k l l (l.length : Int) 0) (fun k _ => ?_) (same_l l.length l 0 (by omega) (by omega) h)
  simp only [laws_jSame.f]
  rw [if_pos trivial]
theorem jrows_l (n : Nat) : ∀ (l : List (List Int)) (i : Int), (∀ j : Int, 0 ≤ j → j < (l.length : Int) → (rd_L1 l j).length ≤ 4000000) → 0 ≤ i → (l.length : Int) - i = n → l.length ≤ 4000000 → Ev (fun k => laws_jRows.l0 k l l (l.length : Int) i) true := by
  induction n with
  | zero =>
    intro l i hl h0 h1 h2
    refine Ev.step (f := fun _ => some true) (fun k => ?_) (Ev.now _)
    simp only [laws_jRows.l0]
    rw [if_neg (by omega)]
  | succ n ih =>
    intro l i hl h0 h1 h2
    obtain ⟨K, hK⟩ := same_ev (rd_L1 l i) (hl i h0 (by omega))
    refine stepK K (f := fun k => laws_jRows.l0 k l l (l.length : Int) (i + 1)) (fun k hk => ?_) (ih l (i + 1) hl (by omega) (by omega) h2)
    simp only [laws_jRows.l0]
    rw [if_pos (by omega), if_pos h0, if_pos (by omega), if_pos (by omega), bind_eq (hK k hk), if_pos rfl, wrap_id (x := i + 1) (by omega) (by omega)]
theorem jrows_ev (l : List (List Int)) (hl : ∀ j : Int, 0 ≤ j → j < (l.length : Int) → (rd_L1 l j).length ≤ 4000000) (h : l.length ≤ 4000000) : Ev (fun k => laws_jRows.f k l l) true := by
  refine congrK 0 (f := fun k => laws_jRows.l0 k l l (l.length : Int) 0) (fun k _ => ?_) (jrows_l l.length l 0 hl (by omega) (by omega) h)
  simp only [laws_jRows.f]
  rw [if_pos trivial]
theorem jlad_l (n : Nat) : ∀ (l : List S23) (i : Int), 0 ≤ i → (l.length : Int) - i = n → l.length ≤ 4000000 → Ev (fun k => laws_jLadders.l0 k l l (l.length : Int) i) true := by
  induction n with
  | zero =>
    intro l i h0 h1 h2
    refine Ev.step (f := fun _ => some true) (fun k => ?_) (Ev.now _)
    simp only [laws_jLadders.l0]
    rw [if_neg (by omega)]
  | succ n ih =>
    intro l i h0 h1 h2
    refine Ev.step (fun k => ?_) (ih l (i + 1) (by omega) (by omega) h2)
    simp only [laws_jLadders.l0]
    rw [if_pos (by omega), if_pos h0, if_pos (by omega), if_pos (by omega), if_neg (by simp), wrap_id (x := i + 1) (by omega) (by omega)]
theorem jlad_ev (l : List S23) (h : l.length ≤ 4000000) : Ev (fun k => laws_jLadders.f k l l) true := by
  refine congrK 0 (f := fun k => laws_jLadders.l0 k l l (l.length : Int) 0) (fun k _ => ?_) (jlad_l l.length l 0 (by omega) (by omega) h)
  simp only [laws_jLadders.f]
  rw [if_pos trivial]
theorem row_mem (l : List (List Int)) (i : Int) (h0 : 0 ≤ i) (h1 : i < (l.length : Int)) : rd_L1 l i ∈ l := by
  unfold rd_L1
  rw [List.getD_eq_getElem?_getD, List.getElem?_eq_getElem (by omega)]
  exact List.getElem_mem _
theorem rd_two (p q : Int) : rd [p, q] 0 = p ∧ rd [p, q] 1 = q := ⟨rfl, rfl⟩
/-- A row's facts. -/
theorem row_fact {a : Int} (ha : 1 ≤ a ∧ a ≤ 200) {x : List Int} (h : Row a x) : x.length = 2 ∧ rd x 0 ≤ rd x 1 ∧ a < rd x 0 ∧ wrap64 (rd x 0 * rd x 1) = wrap64 (a * wrap64 (rd x 0 + rd x 1)) := by
  obtain ⟨p, q, rfl, h1, h2, h3, h4, h5⟩ := h
  obtain ⟨e1, e2⟩ := rd_two p q
  rw [e1, e2, wrap_id (x := p + q) (by omega) (by omega), h5]
  exact ⟨rfl, h1, h2, rfl⟩
theorem row_up {a d : Int} {L : List (List Int)} (h : Rows a d L) (i : Int) (h0 : 0 < i) (h1 : i < (L.length : Int)) : rd (rd_L1 L (i - 1)) 0 < rd (rd_L1 L i) 0 := by
  have := List.pairwise_iff_getElem.1 h.up (i - 1).toNat i.toNat (by omega) (by omega) (by omega)
  unfold rd_L1
  rw [List.getD_eq_getElem?_getD, List.getElem?_eq_getElem (by omega), List.getD_eq_getElem?_getD, List.getElem?_eq_getElem (by omega)]
  exact this
/-- All that the law asks of pairs of heights. -/
theorem hpart (a : Int) : ∃ (K : Nat) (R : List (List Int)) (o : Bool), (∀ k, K ≤ k → impl_PairsFor.f k a = some (R, o) ∧ spec_PairsFor.f k a = some (R, o) ∧ impl_CountPairs.f k a = some ((R.length : Int), o) ∧ spec_CountPairs.f k a = some ((R.length : Int), o) ∧ laws_jRows.f k R R = some true) ∧
    R.length ≤ 1000 ∧ (o = true → 0 < R.length ∧ (∀ i : Int, 0 ≤ i → i < (R.length : Int) → (rd_L1 R i).length = 2 ∧ rd (rd_L1 R i) 0 ≤ rd (rd_L1 R i) 1 ∧ a < rd (rd_L1 R i) 0 ∧ wrap64 (rd (rd_L1 R i) 0 * rd (rd_L1 R i) 1) = wrap64 (a * wrap64 (rd (rd_L1 R i) 0 + rd (rd_L1 R i) 1))) ∧
      ∀ i : Int, 0 < i → i < (R.length : Int) → rd (rd_L1 R (i - 1)) 0 < rd (rd_L1 R i) 0) := by
  by_cases h : 1 ≤ a ∧ a ≤ 200
  · obtain ⟨R, ⟨K1, h1⟩, ⟨K2, h2⟩, e3, e4⟩ := pairs_l a h 201 [] 1 (by omega) (by omega) (by omega) (by simp) ⟨by simp, by simp, List.Pairwise.nil, fun h => by omega⟩
    have hrow : ∀ i : Int, 0 ≤ i → i < (R.length : Int) → Row a (rd_L1 R i) := fun i h0 h1 => e4.row _ (row_mem R i h0 h1)
    obtain ⟨K3, h3⟩ := jrows_ev R (fun j j0 j1 => by have := (row_fact h (hrow j j0 j1)).1; omega) (by omega)
    refine ⟨K1 + K2 + K3, R, true, fun k hk => ?_, e3, fun _ => ⟨e4.one (by omega), fun i h0 h1 => row_fact h (hrow i h0 h1), fun i h0 h1 => row_up e4 i h0 h1⟩⟩
    have g1 := h1 k (by omega)
    have g2 := h2 k (by omega)
    have g3 := h3 k (by omega)
    simp only [] at g1 g2 g3
    refine ⟨?_, ?_, ?_, ?_, g3⟩ <;> simp [impl_PairsFor.f, spec_PairsFor.f, impl_CountPairs.f, spec_CountPairs.f, spec_clPairs.f, in_eq, within_eq, h, g1, g2]
  · obtain ⟨K3, h3⟩ := jrows_ev [] (fun j j0 j1 => by simp at j1; omega) (by simp)
    refine ⟨K3, [], false, fun k hk => ?_, by simp, fun h => by cases h⟩
    have g3 := h3 k (by omega)
    refine ⟨?_, ?_, ?_, ?_, g3⟩ <;> simp [impl_PairsFor.f, spec_PairsFor.f, impl_CountPairs.f, spec_CountPairs.f, in_eq, within_eq, h]
/-- A whole crossing's facts. -/
theorem row_lad (k : Nat) (hk : 2000000000 ≤ k) {a : Int} (ha : a ≤ 150) {x : S23} (h : Good a x) : impl_IsWholeCrossing.f k x.f0 x.f1 x.f2 = some (true, true) ∧ (∃ p q : Int, impl_LengthsOf.f k x.f0 x.f1 x.f2 = some (p, q, true) ∧ p ≤ a ∧ q ≤ a) ∧ x.f2 ≤ x.f1 ∧ impl_CrossHeight.f k x.f0 x.f1 x.f2 = some (hx x, 1, true) := by
  obtain ⟨c1, c2, c3, c4, c5⟩ := cross_pos ha h
  obtain ⟨g1, g2, g3, g4, g5, g6, ⟨t1, t10, t11, t12⟩, ⟨t2, t20, t21, t22⟩⟩ := h
  have hG : G x.f0 x.f1 x.f2 := ⟨by omega, by omega, by omega⟩
  obtain ⟨t, s, o, e1, e2, t0, s0, u1, u2, v1, v2, ho⟩ := lengths_ev k x.f0 x.f1 x.f2 hG (by omega)
  have a1 : t1 < t + 1 := sq_lt (by omega) (by omega)
  have a2 : t < t1 + 1 := sq_lt (by omega) (by rw [Int.add_mul, Int.mul_add]; omega)
  have a3 : t2 < s + 1 := sq_lt (by omega) (by omega)
  have a4 : s < t2 + 1 := sq_lt (by omega) (by rw [Int.add_mul, Int.mul_add]; omega)
  obtain rfl : t = t1 := by omega
  obtain rfl : s = t2 := by omega
  obtain rfl : o = true := by rw [ho, Bool.and_eq_true, beq_iff_eq, beq_iff_eq]; exact ⟨t12, t22⟩
  have w6 : wrap64 (x.f1 * x.f2) = x.f1 * x.f2 := wrap_id (by omega) (by omega)
  have w7 : wrap64 (x.f1 + x.f2) = x.f1 + x.f2 := wrap_id (by omega) (by omega)
  refine ⟨?_, ⟨t, s, by rw [e2]; rfl, t11, t21⟩, g4, ?_⟩
  · simp only [impl_IsWholeCrossing.f, impl_isWholeCrossing.f, are_i, Option.bind_some, decide_eq_true_eq]
    rw [if_pos hG, e2]
    have en : x.f1 + x.f2 ≠ 0 := by omega
    simp [w6, w7, en, hG, g6]
  · rw [crossHi k hk _ _ _ hG, c5]
    obtain ⟨f1, f2⟩ := low_c1 (hx x) (x.f1 + x.f2) c1 (by omega)
    rw [f1, f2]
/-- All that the law asks of whole crossings. -/
theorem wpart (a : Int) : ∃ (K : Nat) (R : List S23) (o : Bool) (b0 b1 b2 m : Int) (e : Bool), (∀ k, K ≤ k → impl_WholeCrossings.f k a = some (R, o) ∧ spec_WholeCrossings.f k a = some (R, o) ∧ impl_LowestWhole.f k a = some (b0, b1, b2, m, e) ∧ spec_LowestWhole.f k a = some (b0, b1, b2, m, e) ∧ laws_jLadders.f k R R = some true) ∧
    R.length ≤ 4000000 ∧ e = (o && decide (0 < (R.length : Int))) ∧ (o = true → (∀ (k : Nat) (i : Int), 2000000000 ≤ k → 0 ≤ i → i < (R.length : Int) → impl_IsWholeCrossing.f k (rd_T23 R i).f0 (rd_T23 R i).f1 (rd_T23 R i).f2 = some (true, true) ∧ (∃ p q : Int, impl_LengthsOf.f k (rd_T23 R i).f0 (rd_T23 R i).f1 (rd_T23 R i).f2 = some (p, q, true) ∧ p ≤ a ∧ q ≤ a) ∧ (rd_T23 R i).f2 ≤ (rd_T23 R i).f1 ∧ impl_CrossHeight.f k (rd_T23 R i).f0 (rd_T23 R i).f1 (rd_T23 R i).f2 = some (hx (rd_T23 R i), 1, true) ∧ m ≤ hx (rd_T23 R i)) ∧
      (0 < R.length → ∃ j : Int, 0 ≤ j ∧ j < (R.length : Int) ∧ rd_T23 R j = ⟨b0, b1, b2⟩ ∧ hx (rd_T23 R j) = m)) := by
  by_cases h : 1 ≤ a ∧ a ≤ 150
  · obtain ⟨R, ⟨K1, h1⟩, ⟨K2, h2⟩, e3, e4⟩ := all_both h
    obtain ⟨m, b0, b1, b2, ⟨K3, h3⟩, ⟨K4, h4⟩, hL⟩ := low_l h.2 e4 e3 R.length 0 0 0 0 0 (by omega) (by omega) ⟨by omega, fun _ => ⟨rfl, rfl, rfl, rfl⟩, fun h => by omega, fun j j0 j1 => by omega⟩
    obtain ⟨K5, h5⟩ := jlad_ev R e3
    obtain ⟨l1, l2, l3, l4⟩ := hL
    have hm : (m > 0) ↔ 0 < (R.length : Int) := by
      constructor
      · intro h
        obtain ⟨j, j0, j1, -⟩ := l3 h
        omega
      · intro h
        rcases Int.lt_or_le 0 m with h | h
        · exact h
        · have := (l2 (by omega)).2.2.2
          omega
    refine ⟨K1 + K2 + K3 + K4 + K5, R, true, b0, b1, b2, m, decide (m > 0), fun k hk => ?_, e3, by rw [Bool.true_and]; exact decide_eq_decide.2 hm, fun _ => ⟨fun k i hk i0 i1 => ?_, fun h => ?_⟩⟩
    · have g1 := h1 k (by omega)
      have g2 := h2 k (by omega)
      have g3 := h3 k (by omega)
      have g4 := h4 k (by omega)
      have g5 := h5 k (by omega)
      simp only [] at g1 g2 g3 g4 g5
      refine ⟨g2, ?_, ?_, ?_, g5⟩
      · simp only [spec_WholeCrossings.f, in_eq, Option.bind_some]
        rw [if_pos (decide_eq_true h), bind_eq g1]
      · simp only [impl_LowestWhole.f]
        rw [bind_eq g2]
        exact g4
      · simp only [spec_LowestWhole.f, in_eq, Option.bind_some]
        rw [if_pos (decide_eq_true h), bind_eq g1]
        exact g3
    · obtain ⟨r1, r2, r3, r4⟩ := row_lad k hk h.2 (e4 _ (rdT_mem R i i0 i1))
      exact ⟨r1, r2, r3, r4, l4 i i0 i1⟩
    · exact l3 (hm.2 (by omega))
  · obtain ⟨K, h1⟩ := all_none h
    obtain ⟨K5, h5⟩ := jlad_ev [] (by simp)
    refine ⟨K + K5 + 1, [], false, 0, 0, 0, 0, false, fun k hk => ?_, by simp, by simp, fun h => by cases h⟩
    have g1 := h1 k (by omega)
    have g5 := h5 k (by omega)
    simp only [] at g1 g5
    refine ⟨g1, ?_, ?_, ?_, g5⟩
    · simp only [spec_WholeCrossings.f, in_eq, Option.bind_some]
      rw [if_neg (by simpa using h)]
    · simp only [impl_LowestWhole.f]
      rw [bind_eq g1]
      obtain ⟨k, rfl⟩ : ∃ m, k = m + 1 := ⟨k - 1, by omega⟩
      simp [impl_LowestWhole.l0]
    · simp only [spec_LowestWhole.f, in_eq, Option.bind_some]
      rw [if_neg (by simpa using h)]
end Go.Proofs.YtkhhlnpiogfofaaDoor.LWList
