/- The plain law of FnShadowsDarkOfAll: for every argument the law as a plain function answers true. No condition. -/
import Derived.Test.YtkhhlnpiogfofaaGreatDoorSDF
import Derived.Test.YtkhhlnpiogfofaaGreatDoorSDBase
import Derived.Test.YtkhhlnpiogfofaaGreatDoorSDText
namespace Go.Proofs.YtkhhlnpiogfofaaGreatDoor.SDMain
open Go.RowKit Go.Proofs.YtkhhlnpiogfofaaGreatDoor.PFnShadowsDarkOfAll Go.Proofs.YtkhhlnpiogfofaaGreatDoorW.PrintWords Go.Proofs.YtkhhlnpiogfofaaGreatDoorW.PrintLast Go.Proofs.YtkhhlnpiogfofaaGreatDoorW.PrintMore Go.Proofs.YtkhhlnpiogfofaaGreatDoor.Given Go.Proofs.YtkhhlnpiogfofaaGreatDoor.SDBase
set_option linter.unusedVariables false
set_option linter.unusedSimpArgs false

theorem yrows_l (n : Nat) : ∀ (l : List (List Int)) (i : Int), (∀ j : Int, 0 ≤ j → j < (l.length : Int) → (rd_L2 l j).length ≤ 4000000) → 0 ≤ i → (l.length : Int) - i = n → l.length ≤ 4000000 → Ev (fun k => laws_yRows.l0 k l l (l.length : Int) i) true := by
 induction n with
 | zero =>
  intro l i hl h0 h1 h2
  refine Ev.step (f := fun _ => some true) (fun k => ?_) (Ev.now _)
  simp only [laws_yRows.l0]
  rw [if_neg (by omega)]
 | succ n ih =>
  intro l i hl h0 h1 h2
  obtain ⟨K, hK⟩ := same_ev (rd_L2 l i) (hl i h0 (by omega))
  refine stepK K (f := fun k => laws_yRows.l0 k l l (l.length : Int) (i + 1)) (fun k hk => ?_) (ih l (i + 1) hl (by omega) (by omega) h2)
  simp only [laws_yRows.l0]
  rw [if_pos (by omega), if_pos h0, if_pos (by omega), if_pos (by omega), bind_eq (hK k hk), if_pos rfl, wrap_id (x := i + 1) (by omega) (by omega)]
theorem yrows_ev (l : List (List Int)) (hl : ∀ j : Int, 0 ≤ j → j < (l.length : Int) → (rd_L2 l j).length ≤ 4000000) (h : l.length ≤ 4000000) : Ev (fun k => laws_yRows.f k l l) true := by
 refine congrK 0 (f := fun k => laws_yRows.l0 k l l (l.length : Int) 0) (fun k _ => ?_) (yrows_l l.length l 0 hl (by omega) (by omega) h)
 simp only [laws_yRows.f]
 rw [if_pos trivial]
theorem ypoles_l (n : Nat) : ∀ (l : List S24) (i : Int), 0 ≤ i → (l.length : Int) - i = n → l.length ≤ 4000000 → Ev (fun k => laws_yPoles.l0 k l l (l.length : Int) i) true := by
 induction n with
 | zero =>
  intro l i h0 h1 h2
  refine Ev.step (f := fun _ => some true) (fun k => ?_) (Ev.now _)
  simp only [laws_yPoles.l0]
  rw [if_neg (by omega)]
 | succ n ih =>
  intro l i h0 h1 h2
  refine Ev.step (fun k => ?_) (ih l (i + 1) (by omega) (by omega) h2)
  simp only [laws_yPoles.l0]
  rw [if_pos (by omega), if_pos h0, if_pos (by omega), if_pos (by omega), if_neg (by simp), wrap_id (x := i + 1) (by omega) (by omega)]
theorem ypoles_ev (l : List S24) (h : l.length ≤ 4000000) : Ev (fun k => laws_yPoles.f k l l) true := by
 refine congrK 0 (f := fun k => laws_yPoles.l0 k l l (l.length : Int) 0) (fun k _ => ?_) (ypoles_l l.length l 0 (by omega) (by omega) h)
 simp only [laws_yPoles.f]
 rw [if_pos trivial]
theorem s14 (K : Nat) (s : ByteArray) (L : List S24) (o : Bool) (hP : o = true → ∀ k, K ≤ k → impl_PolesText.f k L = some (s, true)) : ∀ k, K + 1 ≤ k → laws_FnShadowsDarkOfAll.j14 k s L o false = some true := fun k hk => by
 obtain ⟨k, rfl⟩ : ∃ z, k = z + 1 := ⟨k - 1, by omega⟩
 simp only [laws_FnShadowsDarkOfAll.j14]
 rw [if_neg (by decide)]
 cases o with
 | false => rfl
 | true =>
  rw [if_pos rfl, bind_eq (hP rfl k (by omega))]
  simp
theorem s13 (K : Nat) (l : List S24) (s t : ByteArray) (L : List S24) (o x : Bool) (hP : o = true → ∀ k, K ≤ k → impl_PolesText.f k L = some (s, true)) (hB : x = true → ∀ k, K ≤ k → impl_ParsePoles.f k t = some (l, true)) (hY : ∀ k, K ≤ k → laws_yPoles.f k l l = some true) : ∀ k, K + 2 ≤ k → laws_FnShadowsDarkOfAll.j13 k l s t L o x = some true := fun k hk => by
 obtain ⟨k, rfl⟩ : ∃ z, k = z + 1 := ⟨k - 1, by omega⟩
 simp only [laws_FnShadowsDarkOfAll.j13]
 cases x with
 | true =>
  rw [if_pos rfl, bind_eq (hB rfl k (by omega))]
  simp only []
  rw [if_pos trivial, bind_eq (hY k (by omega))]
  exact s14 K s L o hP k (by omega)
 | false =>
  rw [if_neg (by decide)]
  cases o with
  | false => rfl
  | true =>
   rw [if_pos rfl, bind_eq (hP rfl k (by omega))]
   simp
theorem row_mem (l : List (List Int)) (i : Int) (h0 : 0 ≤ i) (h1 : i < (l.length : Int)) : rd_L2 l i ∈ l := by
 unfold rd_L2
 rw [List.getD_eq_getElem?_getD, List.getElem?_eq_getElem (by omega)]
 exact List.getElem_mem _
theorem sl4 (K : Nat) (hK : 2000000000 ≤ K) (n : Int) (l : List S24) (s t : ByteArray) (b : Bool) (L : List S24) (o : Bool) (R : List (List Int)) (hR : R.length ≤ 1000) (hr : ∀ x ∈ R, (2 ≤ n ∧ n ≤ 40) ∧ WRow n x)
  (h13 : ∀ (x : Bool), (x = true → b = true ∧ (t.size : Int) ≤ 50) → ∀ k, K + 2 ≤ k → laws_FnShadowsDarkOfAll.j13 k l s t L o x = some true) (cnt : Nat) :
  ∀ (i : Int) (k : Nat), 0 ≤ i → (R.length : Int) - i = cnt → K + 3 + cnt ≤ k → laws_FnShadowsDarkOfAll.l4 k n l s t b L o R (R.length : Int) i = some true := by
 induction cnt with
 | zero =>
  intro i k h0 h1 hk
  obtain ⟨k, rfl⟩ : ∃ z, k = z + 1 := ⟨k - 1, by omega⟩
  simp only [laws_FnShadowsDarkOfAll.l4]
  rw [if_neg (by omega)]
  cases b with
  | true =>
   rw [if_pos rfl]
   exact h13 _ (fun h => ⟨rfl, of_decide_eq_true h⟩) k (by omega)
  | false =>
   rw [if_neg (by decide)]
   exact h13 false (fun h => by cases h) k (by omega)
 | succ cnt ih =>
  intro i k h0 h1 hk
  obtain ⟨k, rfl⟩ : ∃ z, k = z + 1 := ⟨k - 1, by omega⟩
  have hlt : i < (R.length : Int) := by omega
  obtain ⟨ha, hw⟩ := hr _ (row_mem R i h0 hlt)
  obtain ⟨e1, e2⟩ := whole_len k (by omega) ha hw
  simp only [laws_FnShadowsDarkOfAll.l4]
  rw [if_pos hlt, if_pos h0, if_pos hlt, if_pos (by omega), if_pos (by omega), bind_eq e2]
  simp only []
  rw [if_pos (by omega), if_pos trivial, if_pos trivial, if_pos (by omega), if_pos trivial, wrap_id (x := i + 1) (by omega) (by omega)]
  exact ih (i + 1) k (by omega) (by omega) (by omega)
theorem isH_ev (m a b c d : Int) : ∃ o1 o2 : Bool, impl_IsHidden.f m a b c d = some (o1, o2) ∧ ∀ k, 1000 ≤ k → spec_IsHidden.f k m a b c d = some (o1, o2) := by
 by_cases h1 : B m a b
 ·by_cases h2 : B m c d
  ·unfold B at h1 h2
   obtain ⟨o, e1, e2, -⟩ := hides_ev m a b c d h1.1 h1.2.1.1 ⟨h1.2.1.2.1, h1.2.2⟩ h2.2.1.1 ⟨h2.2.1.2.1, h2.2.2⟩
   refine ⟨o, true, ?_, fun k hk => ?_⟩
   ·simp only [impl_IsHidden.f, both_impl, Option.bind_some, decide_eq_true_eq]
    rw [if_pos h1, if_pos h2, e2]
    rfl
   ·simp [spec_IsHidden.f, both_spec, h1, h2, e1 k hk]
  ·unfold B at h1 h2
   refine ⟨false, false, ?_, fun k hk => ?_⟩
   ·simp only [impl_IsHidden.f, both_impl, Option.bind_some, decide_eq_true_eq]
    rw [if_pos h1, if_neg h2]
   ·simp only [spec_IsHidden.f, both_spec, Option.bind_some, decide_eq_true_eq]
    rw [if_pos h1, if_neg h2]
 ·unfold B at h1
  refine ⟨false, false, ?_, fun k hk => ?_⟩
  ·simp only [impl_IsHidden.f, both_impl, Option.bind_some, decide_eq_true_eq]
   rw [if_neg h1]
  ·simp only [spec_IsHidden.f, both_spec, Option.bind_some, decide_eq_true_eq]
   rw [if_neg h1]
theorem end_at (k : Nat) (hk : 2000000000 ≤ k) {m : Int} {l : List S24} (hg : SDBase.Good m l) {v i : Int} (hv : 0 ≤ v ∧ v ≤ 1000) (h0 : 0 ≤ i) (h1 : i < (l.length : Int)) :
  ∃ p q : Int, impl_ShadowEnd.f k m (rd_T24 l i).f0 (rd_T24 l i).f1 = some (p, q, true) ∧ (wrap64 (v * q) ≤ p ↔ v * (m - (rd_T24 l i).f1) ≤ (rd_T24 l i).f0 * m) := by
 have hb := good_B hg h0 h1
 obtain ⟨n1, n2, n3, n4⟩ := bd _ _ _ hb
 refine ⟨_, _, sEnd k hk m _ _ hb, ?_⟩
 obtain ⟨g, g0, e1, e2, p0, q1, px, qy, -⟩ := nd ((rd_T24 l i).f0 * m) (m - (rd_T24 l i).f1) (by omega) (by omega)
 have mm := mulb (a := v) (b := de ((rd_T24 l i).f0 * m) (m - (rd_T24 l i).f1)) (A := 1000) (B := 199) hv.1 hv.2 (by omega) (by omega)
 rw [wrap_id (by omega) (by omega)]
 exact fr_at (by omega) (by omega)
theorem sl3 (m t hi n : Int) (l lst : List S24) (s : ByteArray) (p0 p1 q0 q1 : Int) (R : List Int) (hg : SDBase.Good m l) (hR : R.length ≤ 1000) (hL : Lists (fun v => ∃ x : Int, 0 ≤ x ∧ x < l.length ∧ Dk m l v x) (t + 1) R) (v : Int) (hv : 0 ≤ v ∧ v ≤ t ∧ v ≤ 40) (K : Nat) (hK : 2000000000 ≤ K)
  (hH : ∀ k, K ≤ k → laws_yHas.f k R v = some (decide (v ∈ R))) (h2 : ∀ k, K ≤ k → laws_FnShadowsDarkOfAll.l2 k m l t hi n lst s R (v + 1) p0 p1 q0 q1 = some true) (cnt : Nat) :
  ∀ (i : Int) (fb : Bool) (k : Nat), 0 ≤ i → (l.length : Int) - i = cnt → (fb = true ↔ ∃ x : Int, 0 ≤ x ∧ x < i ∧ Dk m l v x) → K + 1 + cnt ≤ k →
   laws_FnShadowsDarkOfAll.l3 k m l t hi n lst s R v fb l (l.length : Int) i p0 p1 q0 q1 = some true := by
 have h6 := hg.2.1
 induction cnt with
 | zero =>
  intro i fb k h0 h1 hf hk
  obtain ⟨k, rfl⟩ : ∃ z, k = z + 1 := ⟨k - 1, by omega⟩
  obtain rfl : i = (l.length : Int) := by omega
  have e : fb = decide (v ∈ R) := by
   rw [Bool.eq_iff_iff, hf, decide_eq_true_eq, hL.mem]
   exact ⟨fun h => ⟨hv.1, by omega, h⟩, fun h => h.2.2⟩
  simp only [laws_FnShadowsDarkOfAll.l3]
  rw [if_neg (by omega), bind_eq (hH k (by omega)), e, bne_self_eq_false, if_neg (by decide), wrap_id (x := v + 1) (by omega) (by omega)]
  exact h2 k (by omega)
 | succ cnt ih =>
  intro i fb k h0 h1 hf hk
  obtain ⟨k, rfl⟩ : ∃ z, k = z + 1 := ⟨k - 1, by omega⟩
  have hlt : i < (l.length : Int) := by omega
  obtain ⟨p, q, e1, e2⟩ := end_at k (by omega) hg (v := v) (by omega) h0 hlt
  simp only [laws_FnShadowsDarkOfAll.l3]
  rw [if_pos hlt, if_pos h0, if_pos hlt, bind_eq e1]
  simp only []
  rw [if_pos trivial, wrap_id (x := i + 1) (by omega) (by omega)]
  have ext : (∃ x : Int, 0 ≤ x ∧ x < i + 1 ∧ Dk m l v x) ↔ (∃ x : Int, 0 ≤ x ∧ x < i ∧ Dk m l v x) ∨ Dk m l v i := by
   constructor
   ·rintro ⟨x, x0, x1, x2⟩
    by_cases e : x = i
    ·rw [e] at x2; exact .inr x2
    ·exact .inl ⟨x, x0, by omega, x2⟩
   ·rintro (⟨x, x0, x1, x2⟩ | x2)
    ·exact ⟨x, x0, by omega, x2⟩
    ·exact ⟨i, h0, by omega, x2⟩
  cases fb with
  | true =>
   rw [if_pos rfl]
   exact ih (i + 1) true k (by omega) (by omega) ⟨fun _ => ext.2 (.inl (hf.1 rfl)), fun _ => rfl⟩ (by omega)
  | false =>
   have hno : ¬ ∃ x : Int, 0 ≤ x ∧ x < i ∧ Dk m l v x := fun h => by have := hf.2 h; cases this
   rw [if_neg (by decide)]
   by_cases c : v > (rd_T24 l i).f0
   ·rw [if_pos c]
    refine ih (i + 1) _ k (by omega) (by omega) ?_ (by omega)
    rw [ext, decide_eq_true_eq, e2]
    exact ⟨fun h => .inr ⟨c, h⟩, fun h => (h.resolve_left hno).2⟩
   ·rw [if_neg c]
    refine ih (i + 1) false k (by omega) (by omega) ?_ (by omega)
    rw [ext]
    exact ⟨fun h => (by cases h), fun h => absurd (h.resolve_left hno).1 c⟩
theorem sl2 (m t hi n : Int) (l lst : List S24) (s : ByteArray) (p0 p1 q0 q1 : Int) (R : List Int) (hg : SDBase.Good m l) (hR : R.length ≤ 1000) (hL : Lists (fun v => ∃ x : Int, 0 ≤ x ∧ x < l.length ∧ Dk m l v x) (t + 1) R) (K : Nat) (hK : 2000000000 ≤ K)
  (hH : ∀ v k, 0 ≤ v → v ≤ 40 → K ≤ k → laws_yHas.f k R v = some (decide (v ∈ R))) (hU : ∀ k, K ≤ k → laws_yRises.f k R = some true) (h10 : ∀ k, K ≤ k → laws_FnShadowsDarkOfAll.j10 k hi n lst s p0 p1 q0 q1 = some true) (cnt : Nat) :
  ∀ (v : Int) (k : Nat), 0 ≤ v → 41 - v ≤ cnt → v ≤ 41 → K + 3 + 20 * cnt ≤ k → laws_FnShadowsDarkOfAll.l2 k m l t hi n lst s R v p0 p1 q0 q1 = some true := by
 have h6 := hg.2.1
 have stop : ∀ (v : Int) (k : Nat), K + 1 ≤ k → laws_FnShadowsDarkOfAll.j8 k m l t hi n lst s R v false p0 p1 q0 q1 = some true := fun v k hk => by
  obtain ⟨k, rfl⟩ : ∃ z, k = z + 1 := ⟨k - 1, by omega⟩
  simp only [laws_FnShadowsDarkOfAll.j8]
  rw [if_neg (by decide), bind_eq (hU k (by omega)), if_pos rfl]
  exact h10 k (by omega)
 induction cnt with
 | zero =>
  intro v k h0 h1 h2 hk
  obtain ⟨k, rfl⟩ : ∃ z, k = z + 1 := ⟨k - 1, by omega⟩
  simp only [laws_FnShadowsDarkOfAll.l2]
  rw [decide_eq_false (show ¬ v ≤ 40 by omega), ite_self]
  exact stop v k (by omega)
 | succ cnt ih =>
  intro v k h0 h1 h2 hk
  obtain ⟨k, rfl⟩ : ∃ z, k = z + 1 := ⟨k - 1, by omega⟩
  simp only [laws_FnShadowsDarkOfAll.l2]
  by_cases c : v ≤ t
  ·rw [if_pos c]
   by_cases c2 : v ≤ 40
   ·rw [decide_eq_true c2]
    obtain ⟨k, rfl⟩ : ∃ z, k = z + 1 := ⟨k - 1, by omega⟩
    simp only [laws_FnShadowsDarkOfAll.j8]
    rw [if_pos trivial]
    exact sl3 m t hi n l lst s p0 p1 q0 q1 R hg hR hL v ⟨h0, c, c2⟩ (K + 3 + 20 * cnt) (by omega) (fun k hk => hH v k h0 c2 (by omega)) (fun k hk => ih (v + 1) k (by omega) (by omega) (by omega) hk) l.length 0 false k (by omega) (by omega) ⟨fun h => (by cases h), fun ⟨x, x0, x1, _⟩ => (by omega)⟩ (by omega)
   ·rw [decide_eq_false c2]
    exact stop v k (by omega)
  ·rw [if_neg c]
   exact stop v k (by omega)
theorem sl1 (m t hi n : Int) (l lst : List S24) (s : ByteArray) (p0 p1 q0 q1 : Int) (R H : List Int) (ok : Bool) (g far den x38 x39 : Int) (re : Bool) (hg : SDBase.Good m l) (hL : Lists (fun v => ∃ x : Int, 0 ≤ x ∧ x < v ∧ Hid m l x v) (l.length : Int) H) (i : Int) (hi0 : 0 ≤ i) (hi1 : i < (l.length : Int)) (K : Nat)
  (hH : ∀ k, K ≤ k → laws_yHas.f k H i = some (decide (i ∈ H))) (h0' : ∀ k, K ≤ k → laws_FnShadowsDarkOfAll.l0 k m l t hi n lst s R ok H g far den re x38 x39 l (l.length : Int) (i + 1) p0 p1 q0 q1 = some true) (cnt : Nat) :
  ∀ (j : Int) (fb : Bool) (k : Nat), 0 ≤ j → i - j = cnt → (fb = true ↔ ∃ x : Int, 0 ≤ x ∧ x < j ∧ Hid m l x i) → K + 1 + cnt ≤ k →
   laws_FnShadowsDarkOfAll.l1 k m l t hi n lst s R ok H g far den re x38 x39 i fb l (l.length : Int) i (l.take i.toNat) ((l.take i.toNat).length : Int) j p0 p1 q0 q1 (rd_T24 l i).f0 (rd_T24 l i).f1 = some true := by
 have h6 := hg.2.1
 have hlen : ((l.take i.toNat).length : Int) = i := by rw [List.length_take]; omega
 induction cnt with
 | zero =>
  intro j fb k h0 h1 hf hk
  obtain ⟨k, rfl⟩ : ∃ z, k = z + 1 := ⟨k - 1, by omega⟩
  obtain rfl : j = i := by omega
  have e : fb = decide (j ∈ H) := by
   rw [Bool.eq_iff_iff, hf, decide_eq_true_eq, hL.mem]
   exact ⟨fun h => ⟨hi0, hi1, h⟩, fun h => h.2.2⟩
  simp only [laws_FnShadowsDarkOfAll.l1]
  rw [if_neg (by omega), bind_eq (hH k (by omega)), e, bne_self_eq_false, if_neg (by decide), wrap_id (x := j + 1) (by omega) (by omega)]
  exact h0' k (by omega)
 | succ cnt ih =>
  intro j fb k h0 h1 hf hk
  obtain ⟨k, rfl⟩ : ∃ z, k = z + 1 := ⟨k - 1, by omega⟩
  have hji : j < i := by omega
  have e1 := hidI hg h0 (show j < (l.length : Int) by omega) hi0 hi1
  have ext : (∃ x : Int, 0 ≤ x ∧ x < j + 1 ∧ Hid m l x i) ↔ (∃ x : Int, 0 ≤ x ∧ x < j ∧ Hid m l x i) ∨ Hid m l j i := by
   constructor
   ·rintro ⟨x, x0, x1, x2⟩
    by_cases e : x = j
    ·rw [e] at x2; exact .inr x2
    ·exact .inl ⟨x, x0, by omega, x2⟩
   ·rintro (⟨x, x0, x1, x2⟩ | x2)
    ·exact ⟨x, x0, by omega, x2⟩
    ·exact ⟨j, h0, by omega, x2⟩
  simp only [laws_FnShadowsDarkOfAll.l1]
  rw [if_pos (by omega), if_pos h0, if_pos (by omega), rd_take l i j h0 hji, bind_eq e1]
  simp only []
  rw [if_pos trivial, wrap_id (x := j + 1) (by omega) (by omega)]
  cases fb with
  | true =>
   rw [if_pos rfl]
   exact ih (j + 1) true k (by omega) (by omega) ⟨fun _ => ext.2 (.inl (hf.1 rfl)), fun _ => rfl⟩ (by omega)
  | false =>
   have hno : ¬ ∃ x : Int, 0 ≤ x ∧ x < j ∧ Hid m l x i := fun h => by have := hf.2 h; cases this
   rw [if_neg (by decide)]
   refine ih (j + 1) _ k (by omega) (by omega) ?_ (by omega)
   rw [ext, decide_eq_true_eq]
   exact ⟨fun h => .inr h, fun h => h.resolve_left hno⟩
/-- What the law's loop over poles asks at one pole. -/
theorem at_pole (k : Nat) (hk : 2000000000 ≤ k) {m : Int} {l : List S24} (hg : SDBase.Good m l) {b g i : Int} (hb0 : 0 ≤ b) (hb1 : b < (l.length : Int)) (hg0 : 0 ≤ g) (hg1 : g < (l.length : Int)) (h0 : 0 ≤ i) (h1 : i < (l.length : Int))
  (hb : (rd_T24 l i).f0 * (m - (rd_T24 l b).f1) ≤ (rd_T24 l b).f0 * (m - (rd_T24 l i).f1))
  (hgl : (rd_T24 l i).f0 * (rd_T24 l i).f1 * (m - (rd_T24 l g).f1) ≤ (rd_T24 l g).f0 * (rd_T24 l g).f1 * (m - (rd_T24 l i).f1))
  (hgs : i < g → (rd_T24 l i).f0 * (rd_T24 l i).f1 * (m - (rd_T24 l g).f1) < (rd_T24 l g).f0 * (rd_T24 l g).f1 * (m - (rd_T24 l i).f1)) :
  ∃ p q u v : Int, impl_ShadowEnd.f k m (rd_T24 l i).f0 (rd_T24 l i).f1 = some (p, q, true) ∧ impl_ShadowLength.f k m (rd_T24 l i).f0 (rd_T24 l i).f1 = some (u, v, true) ∧
   ¬ (wrap64 (p * de ((rd_T24 l b).f0 * m) (m - (rd_T24 l b).f1)) > wrap64 (nu ((rd_T24 l b).f0 * m) (m - (rd_T24 l b).f1) * q)) ∧
   ¬ (wrap64 (u * de ((rd_T24 l g).f0 * (rd_T24 l g).f1) (m - (rd_T24 l g).f1)) > wrap64 (nu ((rd_T24 l g).f0 * (rd_T24 l g).f1) (m - (rd_T24 l g).f1) * v)) ∧
   (wrap64 (u * de ((rd_T24 l g).f0 * (rd_T24 l g).f1) (m - (rd_T24 l g).f1)) = wrap64 (nu ((rd_T24 l g).f0 * (rd_T24 l g).f1) (m - (rd_T24 l g).f1) * v) → ¬ i < g) ∧
   (i = b → p = nu ((rd_T24 l b).f0 * m) (m - (rd_T24 l b).f1) ∧ q = de ((rd_T24 l b).f0 * m) (m - (rd_T24 l b).f1)) := by
 have Bi := good_B hg h0 h1
 have ni := bd _ _ _ Bi
 have nb := bd _ _ _ (good_B hg hb0 hb1)
 have ng := bd _ _ _ (good_B hg hg0 hg1)
 refine ⟨_, _, _, _, sEnd k hk m _ _ Bi, sLen k hk m _ _ Bi, ?_, ?_, ?_, fun e => by rw [e]; exact ⟨rfl, rfl⟩⟩
 ·obtain ⟨_, _, _, _, a0, a1, a2, a3, -⟩ := nd ((rd_T24 l i).f0 * m) (m - (rd_T24 l i).f1) (by omega) (by omega)
  obtain ⟨_, _, _, _, c0, c1, c2, c3, -⟩ := nd ((rd_T24 l b).f0 * m) (m - (rd_T24 l b).f1) (by omega) (by omega)
  have x1 := mulb (a := nu ((rd_T24 l i).f0 * m) (m - (rd_T24 l i).f1)) (b := de ((rd_T24 l b).f0 * m) (m - (rd_T24 l b).f1)) (A := 100000) (B := 199) a0 (by omega) (by omega) (by omega)
  have x2 := mulb (a := nu ((rd_T24 l b).f0 * m) (m - (rd_T24 l b).f1)) (b := de ((rd_T24 l i).f0 * m) (m - (rd_T24 l i).f1)) (A := 100000) (B := 199) c0 (by omega) (by omega) (by omega)
  rw [wrap_id (by omega) (by omega), wrap_id (by omega) (by omega)]
  have := (fr_cmp (x := (rd_T24 l i).f0 * m) (y := m - (rd_T24 l i).f1) (u := (rd_T24 l b).f0 * m) (v := m - (rd_T24 l b).f1) (by omega) (by omega) (by omega) (by omega)).1.2 (by
   have e := Int.mul_le_mul_of_nonneg_left hb (show 0 ≤ m by have := hg.1; omega)
   have f1 : (rd_T24 l i).f0 * m * (m - (rd_T24 l b).f1) = m * ((rd_T24 l i).f0 * (m - (rd_T24 l b).f1)) := by grind
   have f2 : (rd_T24 l b).f0 * m * (m - (rd_T24 l i).f1) = m * ((rd_T24 l b).f0 * (m - (rd_T24 l i).f1)) := by grind
   omega)
  omega
 all_goals
  obtain ⟨_, _, _, _, a0, a1, a2, a3, -⟩ := nd ((rd_T24 l i).f0 * (rd_T24 l i).f1) (m - (rd_T24 l i).f1) (by omega) (by omega)
  obtain ⟨_, _, _, _, c0, c1, c2, c3, -⟩ := nd ((rd_T24 l g).f0 * (rd_T24 l g).f1) (m - (rd_T24 l g).f1) (by omega) (by omega)
  have x1 := mulb (a := nu ((rd_T24 l i).f0 * (rd_T24 l i).f1) (m - (rd_T24 l i).f1)) (b := de ((rd_T24 l g).f0 * (rd_T24 l g).f1) (m - (rd_T24 l g).f1)) (A := 100000) (B := 199) a0 (by omega) (by omega) (by omega)
  have x2 := mulb (a := nu ((rd_T24 l g).f0 * (rd_T24 l g).f1) (m - (rd_T24 l g).f1)) (b := de ((rd_T24 l i).f0 * (rd_T24 l i).f1) (m - (rd_T24 l i).f1)) (A := 100000) (B := 199) c0 (by omega) (by omega) (by omega)
  rw [wrap_id (by omega) (by omega), wrap_id (by omega) (by omega)]
  have cmp := fr_cmp (x := (rd_T24 l i).f0 * (rd_T24 l i).f1) (y := m - (rd_T24 l i).f1) (u := (rd_T24 l g).f0 * (rd_T24 l g).f1) (v := m - (rd_T24 l g).f1) (by omega) (by omega) (by omega) (by omega)
 ·have := cmp.1.2 hgl
  omega
 ·intro h hlt
  have := hgs hlt
  have := cmp.2.1 h
  omega
theorem sl0 (m t hi n : Int) (l lst : List S24) (s : ByteArray) (p0 p1 q0 q1 : Int) (R H : List Int) (ok : Bool) (g b : Int) (hg : SDBase.Good m l) (hL : Lists (fun v => ∃ x : Int, 0 ≤ x ∧ x < v ∧ Hid m l x v) (l.length : Int) H)
  (hb0 : 0 ≤ b) (hb1 : b < (l.length : Int)) (hg0 : 0 ≤ g) (hg1 : g < (l.length : Int))
  (hb : ∀ i : Int, 0 ≤ i → i < l.length → (rd_T24 l i).f0 * (m - (rd_T24 l b).f1) ≤ (rd_T24 l b).f0 * (m - (rd_T24 l i).f1))
  (hgl : ∀ i : Int, 0 ≤ i → i < l.length → (rd_T24 l i).f0 * (rd_T24 l i).f1 * (m - (rd_T24 l g).f1) ≤ (rd_T24 l g).f0 * (rd_T24 l g).f1 * (m - (rd_T24 l i).f1))
  (hgs : ∀ i : Int, 0 ≤ i → i < g → (rd_T24 l i).f0 * (rd_T24 l i).f1 * (m - (rd_T24 l g).f1) < (rd_T24 l g).f0 * (rd_T24 l g).f1 * (m - (rd_T24 l i).f1))
  (K : Nat) (hK : 2000000000 ≤ K) (hH : ∀ v k, (0 ≤ v ∧ v < 7) → K ≤ k → laws_yHas.f k H v = some (decide (v ∈ H)))
  (h2 : ok = true → ∀ k, K ≤ k → laws_FnShadowsDarkOfAll.l2 k m l t hi n lst s R 0 p0 p1 q0 q1 = some true) (h10 : ∀ k, K ≤ k → laws_FnShadowsDarkOfAll.j10 k hi n lst s p0 p1 q0 q1 = some true) (cnt : Nat) :
  ∀ (i : Int) (re : Bool) (k : Nat), 0 ≤ i → (l.length : Int) - i = cnt → (re = true ∨ i ≤ b) → K + 1 + 20 * cnt ≤ k →
   laws_FnShadowsDarkOfAll.l0 k m l t hi n lst s R ok H g (nu ((rd_T24 l b).f0 * m) (m - (rd_T24 l b).f1)) (de ((rd_T24 l b).f0 * m) (m - (rd_T24 l b).f1)) re (nu ((rd_T24 l g).f0 * (rd_T24 l g).f1) (m - (rd_T24 l g).f1)) (de ((rd_T24 l g).f0 * (rd_T24 l g).f1) (m - (rd_T24 l g).f1)) l (l.length : Int) i p0 p1 q0 q1 = some true := by
 have h6 := hg.2.1
 induction cnt with
 | zero =>
  intro i re k h0 h1 hr hk
  obtain ⟨k, rfl⟩ : ∃ z, k = z + 1 := ⟨k - 1, by omega⟩
  have e : re = true := hr.resolve_right (by omega)
  simp only [laws_FnShadowsDarkOfAll.l0]
  rw [if_neg (by omega), if_pos e]
  cases ok with
  | true =>
   rw [if_pos rfl]
   exact h2 rfl k (by omega)
  | false =>
   rw [if_neg (by decide)]
   exact h10 k (by omega)
 | succ cnt ih =>
  intro i re k h0 h1 hr hk
  obtain ⟨k, rfl⟩ : ∃ z, k = z + 3 := ⟨k - 3, by omega⟩
  have hlt : i < (l.length : Int) := by omega
  obtain ⟨p, q, u, v, e1, e2, e3, e4, e5, e6⟩ := at_pole (k + 2) (by omega) hg hb0 hb1 hg0 hg1 h0 hlt (hb i h0 hlt) (hgl i h0 hlt) (hgs i h0)
  generalize nu ((rd_T24 l b).f0 * m) (m - (rd_T24 l b).f1) = far at *
  generalize de ((rd_T24 l b).f0 * m) (m - (rd_T24 l b).f1) = den at *
  generalize nu ((rd_T24 l g).f0 * (rd_T24 l g).f1) (m - (rd_T24 l g).f1) = x38 at *
  generalize de ((rd_T24 l g).f0 * (rd_T24 l g).f1) (m - (rd_T24 l g).f1) = x39 at *
  have hlen : ((l.take i.toNat).length : Int) = i := by rw [List.length_take]; omega
  have h5 : ∀ re : Bool, (re = true ∨ i + 1 ≤ b) → laws_FnShadowsDarkOfAll.j5 (k + 1) m l t hi n lst s R ok H g far den re x38 x39 i l (l.length : Int) i p0 p1 q0 q1 (rd_T24 l i).f0 (rd_T24 l i).f1 = some true := fun re hre => by
   simp only [laws_FnShadowsDarkOfAll.j5]
   rw [if_pos h0, if_pos (by omega), Option.bind_some]
   exact sl1 m t hi n l lst s p0 p1 q0 q1 R H ok g far den x38 x39 re hg hL i h0 hlt (K + 1 + 20 * cnt) (fun k hk => hH i k (by omega) (by omega)) (fun k hk => ih (i + 1) re k (by omega) (by omega) hre hk) i.toNat 0 false k (by omega) (by omega) ⟨fun h => (by cases h), fun ⟨x, x0, x1, _⟩ => (by omega)⟩ (by omega)
  have h4 : laws_FnShadowsDarkOfAll.j4 (k + 2) m l t hi n lst s R ok H g far den re x38 x39 i p q l (l.length : Int) i false p0 p1 q0 q1 (rd_T24 l i).f0 (rd_T24 l i).f1 = some true := by
   simp only [laws_FnShadowsDarkOfAll.j4]
   rw [if_neg (by decide)]
   cases re with
   | true =>
    rw [if_pos rfl]
    exact h5 true (.inl rfl)
   | false =>
    have hib : i ≤ b := hr.resolve_left (by decide)
    rw [if_neg (by decide)]
    by_cases c : p = far
    ·rw [if_pos c]
     refine h5 _ ?_
     by_cases e : i = b
     ·left
      rw [(e6 e).2]
      exact beq_self_eq_true _
     ·right; omega
    ·rw [if_neg c]
     refine h5 false (.inr ?_)
     by_cases e : i = b
     ·exact absurd (e6 e).1 c
     ·omega
  simp only [laws_FnShadowsDarkOfAll.l0]
  rw [if_pos hlt, if_pos h0, if_pos hlt, bind_eq e1, bind_eq e2]
  simp only []
  rw [if_pos trivial, if_neg e3, if_pos trivial, if_neg e4]
  by_cases c : wrap64 (u * x39) = wrap64 (x38 * v)
  ·rw [if_pos c, decide_eq_false (e5 c)]
   exact h4
  ·rw [if_neg c]
   exact h4
theorem h10_ev (hi n : Int) (l : List S24) (s : ByteArray) (p0 p1 q0 q1 : Int) (hl : l.length ≤ 10000) (hs : s.size ≤ 1048576) : ∃ K : Nat, ∀ k, K ≤ k → laws_FnShadowsDarkOfAll.j10 k hi n l s p0 p1 q0 q1 = some true := by
 obtain ⟨o1, o2, i1, i2⟩ := isH_ev hi p0 p1 q0 q1
 obtain ⟨R, wo, hR, ⟨K1, w1⟩, ⟨K2, w2⟩, hw⟩ := whole_ev n
 obtain ⟨⟨tx, tb⟩, ⟨K3, t1⟩, ⟨K4, t2⟩, t3, t4⟩ := SDText.texts2 l (by omega)
 obtain ⟨⟨L, lo⟩, hLl, ⟨K5, r1⟩, ⟨K6, r2⟩, r3, r4⟩ := SDText.both2 s hs
 obtain ⟨K7, y1⟩ := yrows_ev R (fun j j0 j1 => by have := (whole_len 2000000000 (Nat.le_refl _) (hw _ (row_mem R j j0 j1)).1 (hw _ (row_mem R j j0 j1)).2).1; omega) (by omega)
 obtain ⟨K8, y2⟩ := ypoles_ev L hLl
 obtain ⟨K9, y3⟩ := ypoles_ev l (by omega)
 have hP : ∃ KP : Nat, lo = true → ∀ k, KP ≤ k → impl_PolesText.f k L = some (s, true) := by
  by_cases h : lo = true
  ·obtain ⟨a1, a2⟩ := r3 h
   obtain ⟨⟨tx2, tb2⟩, ⟨Ka, b1⟩, ⟨Kb, b2⟩, b3, b4⟩ := SDText.texts2 L (by have := hLl; simp only [] at this; omega)
   have e := b3.2 a1
   simp only [] at e
   subst e
   have e2 : tx2 = s := by
    apply ByteArray.ext
    apply Array.toList_inj.1
    rw [(b4 rfl).1, a2]
   subst e2
   exact ⟨Kb, fun _ => b2⟩
  ·exact ⟨0, fun h2 => absurd h2 h⟩
 obtain ⟨KP, hP⟩ := hP
 have hB : ∃ KB : Nat, tb = true → ∀ k, KB ≤ k → impl_ParsePoles.f k tx = some (l, true) := by
  by_cases h : tb = true
  ·obtain ⟨a1, a2⟩ := t4 h
   obtain ⟨R2, -, -, ⟨Kb, b2⟩, -, b4⟩ := SDText.both2 tx (by simp only [] at a2; omega)
   have e := b4 l (t3.1 h) a1
   subst e
   exact ⟨Kb, fun _ => b2⟩
  ·exact ⟨0, fun h2 => absurd h2 h⟩
 obtain ⟨KB, hB⟩ := hB
 obtain ⟨K, hK⟩ : ∃ K : Nat, K = 2000000000 + K1 + K2 + K3 + K4 + K5 + K6 + K7 + K8 + K9 + KP + KB := ⟨_, rfl⟩
 refine ⟨K + 1010, fun k hk => ?_⟩
 obtain ⟨k, rfl⟩ : ∃ z, k = z + 2 := ⟨k - 2, by omega⟩
 simp only [laws_FnShadowsDarkOfAll.j10]
 rw [bind_eq i1, bind_eq (i2 (k + 1) (by omega)), bind_eq (w2 (k + 1) (by omega)), bind_eq (w1 (k + 1) (by omega)), bind_eq (t2 (k + 1) (by omega)), bind_eq (t1 (k + 1) (by omega)), bind_eq (r2 (k + 1) (by omega)), bind_eq (r1 (k + 1) (by omega))]
 simp only [bne_self_eq_false, Bool.false_eq_true, if_false, if_true]
 rw [bind_eq (y1 (k + 1) (by omega))]
 simp only [if_true]
 rw [bind_eq (y2 (k + 1) (by omega))]
 simp only [laws_FnShadowsDarkOfAll.j11, Bool.not_true, Bool.false_eq_true, if_false]
 exact sl4 K (by omega) n l s tx tb L lo R hR hw (fun x hx k hk => s13 K l s tx L lo x (fun h k hk => hP h k (by omega)) (fun h k hk => hB (hx h).1 k (by omega)) (fun k hk => y3 k (by omega)) k hk) R.length 0 k (by omega) (by omega) (by omega)
set_option maxHeartbeats 2000000 in
theorem law (m : Int) (l : List S24) (t hi p0 p1 q0 q1 n : Int) (lst : List S24) (s : ByteArray) : ∃ k, laws_FnShadowsDarkOfAll.f k m l t hi p0 p1 q0 q1 n lst s = some true := by
 have big : ∀ k, laws_FnShadowsDarkOfAll.j0 (k + 1) m l t hi n lst s true p0 p1 q0 q1 = some true := fun k => by
  simp only [laws_FnShadowsDarkOfAll.j0]
  rw [if_pos trivial]
 by_cases c1 : (l.length : Int) > 10000
 ·refine ⟨1, ?_⟩
  simp only [laws_FnShadowsDarkOfAll.f]
  rw [if_pos c1]
  exact big 0
 by_cases c2 : (lst.length : Int) > 10000
 ·refine ⟨1, ?_⟩
  simp only [laws_FnShadowsDarkOfAll.f]
  rw [if_neg c1, if_pos c2]
  exact big 0
 by_cases c3 : (s.size : Int) > 1048576
 ·refine ⟨1, ?_⟩
  simp only [laws_FnShadowsDarkOfAll.f]
  rw [if_neg c1, if_neg c2, decide_eq_true c3]
  exact big 0
 obtain ⟨K10, h10⟩ := h10_ev hi n lst s p0 p1 q0 q1 (by omega) (by omega)
 obtain ⟨R, ok, ⟨K1, d1⟩, ⟨K2, d2⟩, hR, hD⟩ := dark_ev m t l (by omega)
 obtain ⟨H, one, ⟨K3, a1⟩, ⟨K4, a2⟩, hHl, a3, a4⟩ := hid_ev m l (by omega)
 obtain ⟨g, o3, ⟨K5, b1⟩, ⟨K6, b2⟩, b3, b4⟩ := long_ev m l (by omega)
 obtain ⟨far, den, o5, ⟨K7, f1⟩, ⟨K8, f2⟩, f3, f4⟩ := far_ev m l (by omega)
 obtain ⟨o6, ⟨K9, g1⟩, ⟨Ka, g2⟩, g3⟩ := good_ev m l (by omega)
 obtain ⟨Kb, y1⟩ := same_ev R (by omega)
 obtain ⟨Kc, y2⟩ := same_ev H (by omega)
 have e3 : o3 = one := Bool.eq_iff_iff.2 (b3.trans a3.symm)
 have e5 : o5 = one := Bool.eq_iff_iff.2 (f3.trans a3.symm)
 have e6 : o6 = one := Bool.eq_iff_iff.2 (g3.trans a3.symm)
 subst e3 e5 e6
 have hLR : ∃ KL : Nat, (∀ v k, 0 ≤ v → v ≤ 40 → KL ≤ k → laws_yHas.f k R v = some (decide (v ∈ R))) ∧ (∀ v k, (0 ≤ v ∧ v < 7) → KL ≤ k → laws_yHas.f k H v = some (decide (v ∈ H))) := by
  have all : ∀ (S : List Int) (hS : S.length ≤ 1000) (N : Nat), ∃ KL : Nat, ∀ v : Int, 0 ≤ v → v < N → ∀ k, KL ≤ k → laws_yHas.f k S v = some (decide (v ∈ S)) := fun S hS N => by
   induction N with
   | zero => exact ⟨0, fun v v0 v1 => by omega⟩
   | succ N ih =>
    obtain ⟨KL, h⟩ := ih
    obtain ⟨KM, h2⟩ := has_ev S (N : Int) (by omega)
    refine ⟨KL + KM, fun v v0 v1 k hk => ?_⟩
    by_cases e : v = (N : Int)
    ·rw [e]; exact h2 k (by omega)
    ·exact h v v0 (by omega) k (by omega)
  obtain ⟨Kx, hx⟩ := all R hR 41
  obtain ⟨Ky, hy⟩ := all H hHl 7
  exact ⟨Kx + Ky, fun v k v0 v1 hk => hx v v0 (by omega) k (by omega), fun v k hv hk => hy v hv.1 (by omega) k (by omega)⟩
 obtain ⟨KL, hR2, hH2⟩ := hLR
 have hUp : ∃ KU : Nat, (ok = true → ∀ k, KU ≤ k → laws_yRises.f k R = some true) ∧ (o6 = true → ∀ k, KU ≤ k → laws_yRises.f k H = some true) := by
  have h1 : ∃ KU : Nat, ok = true → ∀ k, KU ≤ k → laws_yRises.f k R = some true := by
   by_cases h : ok = true
   ·obtain ⟨K, h2⟩ := rises_ev R (hD h).2.up (by omega)
    exact ⟨K, fun _ => h2⟩
   ·exact ⟨0, fun h2 => absurd h2 h⟩
  have h2 : ∃ KU : Nat, o6 = true → ∀ k, KU ≤ k → laws_yRises.f k H = some true := by
   by_cases h : o6 = true
   ·obtain ⟨K, h2⟩ := rises_ev H (a4 h).up (by omega)
    exact ⟨K, fun _ => h2⟩
   ·exact ⟨0, fun h2 => absurd h2 h⟩
  obtain ⟨Kx, hx⟩ := h1
  obtain ⟨Ky, hy⟩ := h2
  exact ⟨Kx + Ky, fun h k hk => hx h k (by omega), fun h k hk => hy h k (by omega)⟩
 obtain ⟨KU, hU1, hU2⟩ := hUp
 obtain ⟨K, hK⟩ : ∃ K : Nat, K = 2000000000 + K10 + K1 + K2 + K3 + K4 + K5 + K6 + K7 + K8 + K9 + Ka + Kb + Kc + KL + KU := ⟨_, rfl⟩
 have h1 : ∀ k, K + 2000 ≤ k → laws_FnShadowsDarkOfAll.j1 k m l t hi n lst s R ok H o6 g far den false p0 p1 q0 q1 = some true := fun k hk => by
  obtain ⟨k, rfl⟩ : ∃ z, k = z + 2 := ⟨k - 2, by omega⟩
  simp only [laws_FnShadowsDarkOfAll.j1]
  rw [if_neg (by decide)]
  cases o6 with
  | false =>
   rw [if_neg (by decide)]
   exact h10 (k + 1) (by omega)
  | true =>
   have hg := a3.1 rfl
   have h6 := hg.2.1
   obtain ⟨u0, u1, u2, u3⟩ := b4 rfl
   obtain ⟨b, v0, v1, v2, v3, v4⟩ := f4 rfl
   have hzero : decide ((0 : Int) ∈ H) = false := decide_eq_false (fun h => by
    obtain ⟨_, _, x, x0, x1, _⟩ := ((a4 rfl).mem 0).1 h
    omega)
   rw [if_pos rfl, if_pos u0, if_pos u1, bind_eq (sLen (k + 1) (by omega) m _ _ (good_B hg u0 u1))]
   simp only []
   rw [if_pos trivial, bind_eq (hU2 rfl (k + 1) (by omega)), if_pos rfl, bind_eq (hH2 0 (k + 1) (by omega) (by omega)), hzero]
   simp only [laws_FnShadowsDarkOfAll.j2]
   rw [if_neg (by decide), v2, v3]
   refine sl0 m t hi n l lst s p0 p1 q0 q1 R H ok g b hg (a4 rfl) v0 v1 u0 u1 v4 u2 u3 (K + 1000) (by omega) (fun v k hv hk => hH2 v k hv (by omega)) (fun h k hk => ?_) (fun k hk => h10 k (by omega)) l.length 0 false k (by omega) (by omega) (.inr v0) (by omega)
   exact sl2 m t hi n l lst s p0 p1 q0 q1 R hg hR (hD h).2 K (by omega) (fun v k v0 v1 hk => hR2 v k v0 v1 (by omega)) (fun k hk => hU1 h k (by omega)) (fun k hk => h10 k (by omega)) 41 0 k (by omega) (by omega) (by omega) (by omega)
 refine ⟨K + 2001, ?_⟩
 simp only [laws_FnShadowsDarkOfAll.f]
 rw [if_neg c1, if_neg c2, decide_eq_false c3]
 simp only [laws_FnShadowsDarkOfAll.j0]
 have ga : spec_ArePoles.f (K + 2000) m l = some o6 := by
  simp only [spec_ArePoles.f]
  rw [bind_eq (g1 (K + 2000) (by omega))]
 rw [if_neg (by decide), bind_eq (d2 (K + 2000) (by omega)), bind_eq (d1 (K + 2000) (by omega)), bind_eq (a2 (K + 2000) (by omega)), bind_eq (a1 (K + 2000) (by omega)), bind_eq (b2 (K + 2000) (by omega)), bind_eq (b1 (K + 2000) (by omega)), bind_eq (f2 (K + 2000) (by omega)), bind_eq (f1 (K + 2000) (by omega))]
 simp only [bne_self_eq_false, Bool.false_eq_true, if_false, if_true]
 rw [bind_eq (y1 (K + 2000) (by omega))]
 simp only [if_true]
 rw [bind_eq (y2 (K + 2000) (by omega))]
 simp only [if_true]
 rw [bind_eq (g2 (K + 2000) (by omega))]
 simp only [bne_self_eq_false, Bool.false_eq_true, if_false]
 rw [bind_eq (g2 (K + 2000) (by omega)), bind_eq ga]
 simp only [bne_self_eq_false, Bool.false_eq_true, if_false]
 cases ok with
 | true =>
  have hone : o6 = true := a3.2 (hD rfl).1
  rw [if_pos rfl, hone]
  rw [hone] at h1
  exact h1 (K + 2000) (Nat.le_refl _)
 | false => exact h1 (K + 2000) (Nat.le_refl _)
end Go.Proofs.YtkhhlnpiogfofaaGreatDoor.SDMain
