/- The plain law of FnExactCornerOf: for every argument the printed law function answers true. No condition beyond the statement's own. -/
import Derived.Test.YtiembijmopimgaaCLaw
set_option linter.unusedVariables false
set_option linter.unusedSimpArgs false
namespace Go.Proofs.Ytiembijmopimgaa.Pure
open Go.RowKit Go.Proofs.Ytiembijmopimgaa.PFnExactCornerOf Go.Proofs.YtiembijmopimgaaW.PrintWords Go.Proofs.YtiembijmopimgaaW.PrintLast Go.Proofs.YtiembijmopimgaaW.PrintMore Go.Proofs.Ytiembijmopimgaa.CNext Go.Proofs.Ytiembijmopimgaa.CFol Go.Proofs.Ytiembijmopimgaa.CTo
namespace FnExactCornerOfL
theorem wrap_id {x : Int} (h0 : -9223372036854775808 ≤ x) (h1 : x ≤ 9223372036854775807) : wrap64 x = x := by unfold wrap64; omega

theorem in_eq (a b c : Int) : spec_l1In.f a b c = some (decide (b ≤ a ∧ a ≤ c)) := by
  unfold spec_l1In.f
  by_cases h : a ≥ b
  · rw [if_pos h]; simp [h]
  · rw [if_neg h]; simp; omega

theorem within_eq (a b c : Int) : impl_within.f a b c = some (decide (b ≤ a ∧ a ≤ c)) := by
  unfold impl_within.f
  by_cases h : a ≥ b
  · rw [if_pos h]; simp [h]
  · rw [if_neg h]; simp; omega

theorem mulb {a b A B : Int} (ha : 0 ≤ a) (ha2 : a ≤ A) (hb : 0 ≤ b) (hb2 : b ≤ B) : 0 ≤ a * b ∧ a * b ≤ A * B :=
  ⟨Int.mul_nonneg ha hb, Int.mul_le_mul ha2 hb2 hb (by omega)⟩


theorem tab_spec (a b : Int) : spec_beTable.f a b = some (decide ((1 ≤ a ∧ a ≤ 60) ∧ (1 ≤ b ∧ b ≤ 60))) := by
  simp only [spec_beTable.f, in_eq, Option.bind_some, decide_eq_true_eq]
  by_cases h : 1 ≤ a ∧ a ≤ 60 <;> simp [h]

theorem tab_impl (a b : Int) : impl_IsTable.f a b = some (decide ((1 ≤ a ∧ a ≤ 60) ∧ (1 ≤ b ∧ b ≤ 60))) := by
  simp only [impl_IsTable.f, within_eq, Option.bind_some, decide_eq_true_eq]
  by_cases h : 1 ≤ a ∧ a ≤ 60 <;> simp [h]

theorem beam_spec (a b x y : Int) (r u : Bool) : spec_beGood.f a b x y r u = some (decide (((1 ≤ a ∧ a ≤ 60) ∧ (1 ≤ b ∧ b ≤ 60)) ∧ (0 ≤ x ∧ x ≤ a) ∧ (0 ≤ y ∧ y ≤ b))) := by
  simp only [spec_beGood.f, tab_spec, in_eq, Option.bind_some, decide_eq_true_eq]
  by_cases h : (1 ≤ a ∧ a ≤ 60) ∧ (1 ≤ b ∧ b ≤ 60) <;> by_cases h2 : 0 ≤ x ∧ x ≤ a <;> simp [h, h2]

theorem beam_impl (a b x y : Int) (r u : Bool) : impl_IsBeam.f a b x y r u = some (decide (((1 ≤ a ∧ a ≤ 60) ∧ (1 ≤ b ∧ b ≤ 60)) ∧ (0 ≤ x ∧ x ≤ a) ∧ (0 ≤ y ∧ y ≤ b))) := by
  simp only [impl_IsBeam.f, tab_impl, within_eq, Option.bind_some, decide_eq_true_eq]
  by_cases h : (1 ≤ a ∧ a ≤ 60) ∧ (1 ≤ b ∧ b ≤ 60) <;> by_cases h2 : 0 ≤ x ∧ x ≤ a <;> simp [h, h2]


def tn (t x : Int) (r : Bool) : Bool := if x = 0 then true else if x = t then false else r
def cor (t0 t1 x y : Int) : Bool := decide ((x = 0 ∨ x = t0) ∧ (y = 0 ∨ y = t1))
def sd_ (t0 t1 x y : Int) : ByteArray := if x = t0 then ⟨#[114]⟩ else if x = 0 then ⟨#[108]⟩ else if y = t1 then ⟨#[117]⟩ else if y = 0 then ⟨#[100]⟩ else ⟨#[]⟩
def st (t0 t1 x y : Int) (r u : Bool) : Int × Int × Bool × Bool × ByteArray :=
  if cor t0 t1 (x + sg r) (y + sg u) = true then (x + sg r, y + sg u, r, u, ⟨#[]⟩)
  else (x + sg r, y + sg u, tn t0 (x + sg r) r, tn t1 (y + sg u) u, sd_ t0 t1 (x + sg r) (y + sg u))
/-- steps made, place, sides: what a beam comes to. -/
def run (t0 t1 : Int) : Nat → Int → Int → Int → Bool → Bool → ByteArray → Int × Int × Int × ByteArray
  | 0, md, x, y, _, _, acc => (md, x, y, acc)
  | m + 1, md, x, y, r, u, acc =>
    if md ≠ 0 ∧ cor t0 t1 x y = true then (md, x, y, acc)
    else run t0 t1 m (md + 1) (st t0 t1 x y r u).1 (st t0 t1 x y r u).2.1 (st t0 t1 x y r u).2.2.1 (st t0 t1 x y r u).2.2.2.1 (acc ++ (st t0 t1 x y r u).2.2.2.2)

theorem j0_eq (k : Nat) (b : Bool) (t0 t1 x y : Int) (r u : Bool) (h1 : 1 ≤ t1) : spec_beTurn.j0 (k + 1) b t0 t1 x y r u = some (x, y, (if b = true then !r else r), tn t1 y u) := by
  unfold spec_beTurn.j0 tn
  by_cases a : y = t1
  · have : y ≠ 0 := by omega
    subst a
    cases b <;> cases u <;> simp [this]
  · rw [if_neg a]
    by_cases c : y = 0 <;> cases b <;> cases u <;> simp [a, c] <;> omega

theorem turn_eq (k : Nat) (t0 t1 x y : Int) (r u : Bool) (h0 : 1 ≤ t0) (h1 : 1 ≤ t1) : spec_beTurn.f (k + 1) t0 t1 x y r u = some (x, y, tn t0 x r, tn t1 y u) := by
  unfold spec_beTurn.f
  simp only [j0_eq k _ t0 t1 x y r u h1]
  by_cases a : x = t0
  · have : x ≠ 0 := by omega
    rw [if_pos a]
    have e : tn t0 x r = false := by unfold tn; rw [if_neg this, if_pos a]
    rw [e]
    cases r <;> simp [this]
  · rw [if_neg a]
    by_cases c : x = 0
    · rw [if_pos c]
      have e : tn t0 x r = true := by unfold tn; rw [if_pos c]
      rw [e]
      cases r <;> simp
    · rw [if_neg c]
      have e : tn t0 x r = r := by unfold tn; rw [if_neg c, if_neg a]
      rw [e]
      simp

theorem inward_eq (t0 t1 x y : Int) (r u : Bool) (h0 : 1 ≤ t0) (h1 : 1 ≤ t1) (hx : 0 ≤ x ∧ x ≤ t0) (hy : 0 ≤ y ∧ y ≤ t1) : impl_inward.f t0 t1 x y r u = some (x, y, tn t0 x r, tn t1 y u) := by
  unfold impl_inward.f tn
  by_cases a : x = 0
  · rw [if_pos a, if_pos a]
    by_cases c : y = 0
    · rw [if_pos c, if_pos c]
    · rw [if_neg c, if_neg c]
      by_cases d : y = t1
      · rw [if_pos d]; cases u <;> simp [d]
      · rw [if_neg d]; cases u <;> simp; omega
  · rw [if_neg a, if_neg a]
    by_cases c : y = 0
    · rw [if_pos c, if_pos c, if_pos c]
      by_cases d : x = t0
      · rw [if_pos d]; cases r <;> simp [d]
      · rw [if_neg d]; cases r <;> simp; omega
    · rw [if_neg c, if_neg c, if_neg c]
      by_cases d : y = t1
      · rw [if_pos d]
        by_cases f : x = t0
        · rw [if_pos f]; cases r <;> cases u <;> simp [d, f]
        · rw [if_neg f]; cases r <;> cases u <;> simp [d] <;> omega
      · rw [if_neg d]
        by_cases f : x = t0
        · rw [if_pos f]; cases r <;> cases u <;> simp [f] <;> omega
        · rw [if_neg f]; cases r <;> cases u <;> simp <;> omega

theorem cor_spec (t0 t1 x y : Int) (r u : Bool) : spec_beCorner.f t0 t1 x y r u = some (cor t0 t1 x y) := by
  unfold spec_beCorner.f cor
  by_cases a : x = 0 <;> by_cases b : x = t0 <;> by_cases c : y = 0 <;> by_cases d : y = t1 <;> simp [a, b, c, d]
theorem cor_impl (t0 t1 x y : Int) (r u : Bool) : impl_isCorner.f t0 t1 x y r u = some (cor t0 t1 x y) := by
  unfold impl_isCorner.f cor
  by_cases a : x = 0 <;> by_cases b : x = t0 <;> by_cases c : y = 0 <;> by_cases d : y = t1 <;> simp [a, b, c, d]

theorem sg_le (b : Bool) : -1 ≤ sg b ∧ sg b ≤ 1 := by cases b <;> simp [sg]

theorem move_eq (x y : Int) (r u : Bool) : spec_beMove.f x y r u = some (wrap64 (x + sg r), wrap64 (y + sg u), r, u) := by
  unfold spec_beMove.f sg
  cases r <;> cases u <;> simp [Int.sub_eq_add_neg]

def inb (t0 t1 x y : Int) : Prop := (0 ≤ x ∧ x ≤ t0) ∧ (0 ≤ y ∧ y ≤ t1)

theorem step_spec (k : Nat) (t0 t1 x y : Int) (r u : Bool) (h0 : 1 ≤ t0 ∧ t0 ≤ 60) (h1 : 1 ≤ t1 ∧ t1 ≤ 60) (hb : inb t0 t1 (x + sg r) (y + sg u)) : spec_beStep.f (k + 1) t0 t1 x y r u = some (st t0 t1 x y r u) := by
  obtain ⟨⟨a1, a2⟩, a3, a4⟩ := hb
  unfold spec_beStep.f st
  rw [move_eq]
  simp only [Option.bind_some]
  rw [wrap_id (x := x + sg r) (by omega) (by omega), wrap_id (x := y + sg u) (by omega) (by omega), cor_spec]
  simp only [Option.bind_some, turn_eq k t0 t1 _ _ _ _ h0.1 h1.1]
  unfold sd_
  by_cases c : cor t0 t1 (x + sg r) (y + sg u) = true
  · rw [if_pos c, if_pos c]
  · rw [if_neg c, if_neg c]
    by_cases c1 : x + sg r = t0
    · rw [if_pos c1, if_pos c1]
    · rw [if_neg c1, if_neg c1]
      by_cases c2 : x + sg r = 0
      · rw [if_pos c2, if_pos c2]
      · rw [if_neg c2, if_neg c2]
        by_cases c3 : y + sg u = t1
        · rw [if_pos c3, if_pos c3]
        · rw [if_neg c3, if_neg c3]
          by_cases c4 : y + sg u = 0
          · rw [if_pos c4, if_pos c4]
          · rw [if_neg c4, if_neg c4]

theorem step_impl (t0 t1 x y : Int) (r u : Bool) (h0 : 1 ≤ t0 ∧ t0 ≤ 60) (h1 : 1 ≤ t1 ∧ t1 ≤ 60) (hb : inb t0 t1 (x + sg r) (y + sg u)) : nextO t0 t1 x y r u = some (st t0 t1 x y r u) := by
  have hb' := hb
  obtain ⟨⟨a1, a2⟩, a3, a4⟩ := hb
  unfold nextO st
  rw [wrap_id (x := x + sg r) (by omega) (by omega), wrap_id (x := y + sg u) (by omega) (by omega), cor_impl, inward_eq _ _ _ _ _ _ h0.1 h1.1 hb'.1 hb'.2]
  simp only [Option.bind_some]
  unfold sd_
  by_cases c : cor t0 t1 (x + sg r) (y + sg u) = true
  · rw [if_pos c, if_pos c]
  · rw [if_neg c, if_neg c]
    by_cases c1 : x + sg r = t0
    · rw [if_pos c1, if_pos c1]
    · rw [if_neg c1, if_neg c1]
      by_cases c2 : x + sg r = 0
      · rw [if_pos c2, if_pos c2]
      · rw [if_neg c2, if_neg c2]
        by_cases c3 : y + sg u = t1
        · rw [if_pos c3, if_pos c3]
        · rw [if_neg c3, if_neg c3]
          by_cases c4 : y + sg u = 0
          · rw [if_pos c4, if_pos c4]
          · rw [if_neg c4, if_neg c4]
            have e1 : tn t0 (x + sg r) r = r := by unfold tn; rw [if_neg c2, if_neg c1]
            have e2 : tn t1 (y + sg u) u = u := by unfold tn; rw [if_neg c4, if_neg c3]
            rw [e1, e2]

theorem can (t x : Int) (r : Bool) (h : 1 ≤ t) (hx : 0 ≤ x ∧ x ≤ t) : 0 ≤ x + sg (tn t x r) ∧ x + sg (tn t x r) ≤ t := by
  unfold tn
  by_cases a : x = 0
  · rw [if_pos a]; simp [sg]; omega
  · rw [if_neg a]
    by_cases b : x = t
    · rw [if_pos b]; simp [sg]; omega
    · rw [if_neg b]; have := sg_le r; omega

/-- On the table, and it can go on unless it has ended. -/
def okb (t0 t1 md x y : Int) (r u : Bool) : Prop := inb t0 t1 x y ∧ (¬ (md ≠ 0 ∧ cor t0 t1 x y = true) → inb t0 t1 (x + sg r) (y + sg u))

theorem okb_st (t0 t1 md x y : Int) (r u : Bool) (h0 : 1 ≤ t0) (h1 : 1 ≤ t1) (hm : 0 ≤ md) (hb : inb t0 t1 (x + sg r) (y + sg u)) : okb t0 t1 (md + 1) (st t0 t1 x y r u).1 (st t0 t1 x y r u).2.1 (st t0 t1 x y r u).2.2.1 (st t0 t1 x y r u).2.2.2.1 := by
  unfold st
  by_cases c : cor t0 t1 (x + sg r) (y + sg u) = true
  · rw [if_pos c]
    exact ⟨hb, fun h => absurd ⟨by omega, c⟩ h⟩
  · rw [if_neg c]
    exact ⟨hb, fun _ => ⟨can _ _ _ h0 hb.1, can _ _ _ h1 hb.2⟩⟩

theorem side_size (t0 t1 x y : Int) (r u : Bool) : (st t0 t1 x y r u).2.2.2.2.size ≤ 1 := by
  unfold st sd_
  by_cases c : cor t0 t1 (x + sg r) (y + sg u) = true
  · rw [if_pos c]; simp [ByteArray.size]
  · rw [if_neg c]
    simp only
    split
    · simp [ByteArray.size]
    · split
      · simp [ByteArray.size]
      · split
        · simp [ByteArray.size]
        · split <;> simp [ByteArray.size]

theorem rd_last (L : List S30) (b : S30) (i : Int) (h : i = (L.length : Int)) : rd_T30 (L ++ [b]) i = b := by
  subst h; simp [rd_T30]

theorem l0_run (t0 t1 n : Int) (h0 : 1 ≤ t0 ∧ t0 ≤ 60) (h1 : 1 ≤ t1 ∧ t1 ≤ 60) (hn : n ≤ 100000) : ∀ (m k : Nat) (md x y : Int) (r u : Bool) (L : List S30) (acc : ByteArray), m + 2 ≤ k → 0 ≤ md → md + m = n → okb t0 t1 md x y r u → (L.length : Int) = md + 1 → rd_T30 L md = ⟨x, y, r, u⟩ → (acc.size : Int) ≤ md →
    ∃ L', spec_beRun.l0 k n L acc md t0 t1 = some (L', (run t0 t1 m md x y r u acc).2.2.2) ∧ (L'.length : Int) = (run t0 t1 m md x y r u acc).1 + 1 ∧ (rd_T30 L' (run t0 t1 m md x y r u acc).1).f0 = (run t0 t1 m md x y r u acc).2.1 ∧ (rd_T30 L' (run t0 t1 m md x y r u acc).1).f1 = (run t0 t1 m md x y r u acc).2.2.1 := by
  intro m
  induction m with
  | zero =>
    intro k md x y r u L acc hk hm hmn ho hL hr ha
    obtain ⟨k, rfl⟩ : ∃ j, k = j + 1 := ⟨k - 1, by omega⟩
    rw [spec_beRun.l0, if_neg (by omega)]
    simp only [run]
    exact ⟨L, rfl, hL, by rw [hr], by rw [hr]⟩
  | succ m ih =>
    intro k md x y r u L acc hk hm hmn ho hL hr ha
    obtain ⟨k, rfl⟩ : ∃ j, k = j + 2 := ⟨k - 2, by omega⟩
    rw [spec_beRun.l0, if_pos (by omega)]
    have hs := side_size t0 t1 x y r u
    have go : ∀ (hc : ¬ (md ≠ 0 ∧ cor t0 t1 x y = true)), ∃ L', ((spec_beStep.f (k + 1) t0 t1 ((rd_T30 L md).f0) ((rd_T30 L md).f1) ((rd_T30 L md).f2) ((rd_T30 L md).f3)).bind fun bt158 => (if L.length < 5864062014805 then (if acc.size + bt158.2.2.2.2.size ≤ 9223372036854775807 then (spec_beRun.l0 (k + 1) n (L ++ [(⟨bt158.1, bt158.2.1, bt158.2.2.1, bt158.2.2.2.1⟩ : S30)]) (acc ++ bt158.2.2.2.2) (wrap64 (md + 1)) t0 t1) else (none)) else (none))) = some (L', (run t0 t1 (m + 1) md x y r u acc).2.2.2) ∧ (L'.length : Int) = (run t0 t1 (m + 1) md x y r u acc).1 + 1 ∧ (rd_T30 L' (run t0 t1 (m + 1) md x y r u acc).1).f0 = (run t0 t1 (m + 1) md x y r u acc).2.1 ∧ (rd_T30 L' (run t0 t1 (m + 1) md x y r u acc).1).f1 = (run t0 t1 (m + 1) md x y r u acc).2.2.1 := by
      intro hc
      have hb := ho.2 hc
      rw [hr]
      simp only []
      rw [step_spec k t0 t1 x y r u h0 h1 hb, Option.bind_some, if_pos (by omega), if_pos (by omega), wrap_id (by omega) (by omega)]
      simp only [run]
      rw [if_neg hc]
      refine ih (k + 1) (md + 1) _ _ _ _ _ _ (by omega) (by omega) (by omega) (okb_st t0 t1 md x y r u h0.1 h1.1 hm hb) (by simp; omega) (rd_last _ _ _ (by omega)) ?_
      rw [ByteArray.size_append]
      omega
    by_cases z : md = 0
    · rw [if_pos z, if_pos hm, if_pos (by omega)]
      exact go (fun h => h.1 z)
    · rw [if_neg z, if_pos hm, if_pos (by omega), hr]
      simp only []
      rw [cor_spec, Option.bind_some]
      by_cases c : cor t0 t1 x y = true
      · rw [if_pos c]
        simp only [run]
        rw [if_pos ⟨z, c⟩]
        exact ⟨L, rfl, hL, by rw [hr], by rw [hr]⟩
      · rw [if_neg c]
        have := go (fun h => c h.2)
        rw [hr] at this
        exact this

theorem turn_okb (t0 t1 x y : Int) (r u : Bool) (h0 : 1 ≤ t0) (h1 : 1 ≤ t1) (hb : inb t0 t1 x y) : okb t0 t1 0 x y (tn t0 x r) (tn t1 y u) :=
  ⟨hb, fun _ => ⟨can _ _ _ h0 hb.1, can _ _ _ h1 hb.2⟩⟩


/-- What is told of a run's end. -/
def fin (t0 t1 : Int) (er eu : Bool) (f : Int × Int × Int × ByteArray) : ByteArray × Int × Int × Int × Bool × Bool × Bool :=
  if 0 < f.1 ∧ cor t0 t1 f.2.1 f.2.2.1 = true then (f.2.2.2, f.1, f.2.1, f.2.2.1, er, eu, true) else (f.2.2.2, 0, 0, 0, false, false, false)
theorem fin_yes {t0 t1 : Int} {er eu : Bool} {f : Int × Int × Int × ByteArray} (h : 0 < f.1 ∧ cor t0 t1 f.2.1 f.2.2.1 = true) : fin t0 t1 er eu f = (f.2.2.2, f.1, f.2.1, f.2.2.1, er, eu, true) := if_pos h
theorem fin_no {t0 t1 : Int} {er eu : Bool} {f : Int × Int × Int × ByteArray} (h : ¬ (0 < f.1 ∧ cor t0 t1 f.2.1 f.2.2.1 = true)) : fin t0 t1 er eu f = (f.2.2.2, 0, 0, 0, false, false, false) := if_neg h

theorem fol_run (t0 t1 n : Int) (h0 : 1 ≤ t0 ∧ t0 ≤ 60) (h1 : 1 ≤ t1 ∧ t1 ≤ 60) (hn : n ≤ 100000) : ∀ (m k : Nat) (md x y : Int) (r u : Bool) (sd acc : ByteArray), m + 1 ≤ k → 0 ≤ md → md + m = n → okb t0 t1 md x y r u → (acc.size : Int) + (sd.size : Int) ≤ md →
    ∃ er eu, fol k n t0 t1 x y r u sd md acc = some (fin t0 t1 er eu (run t0 t1 m md x y r u (acc ++ sd))) := by
  intro m
  induction m with
  | zero =>
    intro k md x y r u sd acc hk hm hmn ho ha
    obtain ⟨k, rfl⟩ : ∃ j, k = j + 1 := ⟨k - 1, by omega⟩
    rw [fol, if_pos (by omega), cor_impl, Option.bind_some]
    have e : run t0 t1 0 md x y r u (acc ++ sd) = (md, x, y, acc ++ sd) := by rw [run]
    rw [e]
    refine ⟨r, u, ?_⟩
    by_cases c : 0 < md ∧ cor t0 t1 x y = true
    · rw [if_pos c, fin_yes c]
    · rw [if_neg c, fin_no c, if_neg (by omega)]
  | succ m ih =>
    intro k md x y r u sd acc hk hm hmn ho ha
    obtain ⟨k, rfl⟩ : ∃ j, k = j + 1 := ⟨k - 1, by omega⟩
    rw [fol, if_pos (by omega), cor_impl, Option.bind_some]
    have hs := side_size t0 t1 x y r u
    by_cases c : 0 < md ∧ cor t0 t1 x y = true
    · have c' : md ≠ 0 ∧ cor t0 t1 x y = true := ⟨by omega, c.2⟩
      have e : run t0 t1 (m + 1) md x y r u (acc ++ sd) = (md, x, y, acc ++ sd) := by rw [run, if_pos c']
      rw [e, if_pos c]
      exact ⟨r, u, by rw [fin_yes c]⟩
    · have hc : ¬ (md ≠ 0 ∧ cor t0 t1 x y = true) := fun h => c ⟨by omega, h.2⟩
      have hb := ho.2 hc
      have step := ih k (md + 1) _ _ _ _ _ _ (by omega) (by omega) (by omega) (okb_st t0 t1 md x y r u h0.1 h1.1 hm hb) (by rw [ByteArray.size_append]; omega : ((acc ++ sd).size : Int) + ((st t0 t1 x y r u).2.2.2.2.size : Int) ≤ md + 1)
      have e : run t0 t1 (m + 1) md x y r u (acc ++ sd) = run t0 t1 m (md + 1) (st t0 t1 x y r u).1 (st t0 t1 x y r u).2.1 (st t0 t1 x y r u).2.2.1 (st t0 t1 x y r u).2.2.2.1 ((acc ++ sd) ++ (st t0 t1 x y r u).2.2.2.2) := by
        rw [run, if_neg hc]
      rw [if_neg c, if_pos (by omega), e]
      obtain ⟨er, eu, hs2⟩ := step
      refine ⟨er, eu, ?_⟩
      rw [← hs2]
      by_cases z : md = 0
      · rw [if_pos z, step_impl t0 t1 x y r u h0 h1 hb, Option.bind_some, wrap_id (by omega) (by omega)]
      · rw [if_neg z, if_neg (fun h => hc ⟨z, h⟩), step_impl t0 t1 x y r u h0 h1 hb, Option.bind_some, wrap_id (by omega) (by omega)]

theorem run_ext (t0 t1 : Int) : ∀ (m e : Nat) (md x y : Int) (r u : Bool) (acc : ByteArray), (run t0 t1 m md x y r u acc).1 ≠ 0 → cor t0 t1 (run t0 t1 m md x y r u acc).2.1 (run t0 t1 m md x y r u acc).2.2.1 = true → run t0 t1 (m + e) md x y r u acc = run t0 t1 m md x y r u acc := by
  intro m
  induction m with
  | zero =>
    intro e md x y r u acc h1 h2
    simp only [run] at h1 h2
    cases e with
    | zero => rfl
    | succ e =>
      have a : run t0 t1 (e + 1) md x y r u acc = (md, x, y, acc) := by rw [run, if_pos ⟨h1, h2⟩]
      have b : run t0 t1 0 md x y r u acc = (md, x, y, acc) := by rw [run]
      rw [Nat.zero_add, a, b]
  | succ m ih =>
    intro e md x y r u acc h1 h2
    rw [show m + 1 + e = (m + e) + 1 by omega]
    by_cases c : md ≠ 0 ∧ cor t0 t1 x y = true
    · rw [run, run, if_pos c, if_pos c]
    · simp only [run] at h1 h2
      rw [if_neg c] at h1 h2
      rw [run, run, if_neg c, if_neg c]
      exact ih e _ _ _ _ _ _ h1 h2

/-- The phases: how far a beam has come, but for the tables' width and height. -/
def ph (t x : Int) (r : Bool) (p : Int) : Prop := ∃ c : Int, (if r = true then x else -x) = p + t * c
theorem ph_tn (t x : Int) (r : Bool) (p : Int) (ht : 1 ≤ t) (h : ph t x r p) : ph t x (tn t x r) p := by
  obtain ⟨c, hc⟩ := h
  unfold tn
  by_cases a : x = 0
  · rw [if_pos a]
    refine ⟨c, ?_⟩
    rw [a] at hc ⊢
    cases r <;> simpa using hc
  · rw [if_neg a]
    by_cases b : x = t
    · rw [if_pos b]
      cases r
      · exact ⟨c, hc⟩
      · refine ⟨c - 2, ?_⟩
        simp only [if_true] at hc
        rw [Int.mul_sub]
        simp only [Bool.false_eq_true, if_false]
        omega
    · rw [if_neg b]
      exact ⟨c, hc⟩
theorem ph_sg (t x : Int) (r : Bool) (p : Int) (h : ph t x r p) : ph t (x + sg r) r (p + 1) := by
  obtain ⟨c, hc⟩ := h
  refine ⟨c, ?_⟩
  cases r
  · simp only [Bool.false_eq_true, if_false, sg] at hc ⊢; omega
  · simp only [if_true, sg] at hc ⊢; omega
theorem ph_edge (t x : Int) (r : Bool) (p : Int) (ht : 1 ≤ t) (hx : 0 ≤ x ∧ x ≤ t) (h : ph t x r p) : (x = 0 ∨ x = t) ↔ ∃ c : Int, p = t * c := by
  obtain ⟨c, hc⟩ := h
  constructor
  · rintro (rfl | rfl)
    · refine ⟨-c, ?_⟩
      rw [Int.mul_neg]
      cases r <;> simp at hc <;> omega
    · cases r
      · refine ⟨-c - 1, ?_⟩
        rw [Int.mul_sub, Int.mul_neg]
        simp only [Bool.false_eq_true, if_false] at hc
        omega
      · refine ⟨-c + 1, ?_⟩
        rw [Int.mul_add, Int.mul_neg]
        simp only [if_true] at hc
        omega
  · rintro ⟨d, rfl⟩
    have e : ∃ q : Int, x = t * q := by
      cases r
      · refine ⟨-d - c, ?_⟩
        simp only [Bool.false_eq_true, if_false] at hc
        rw [Int.mul_sub, Int.mul_neg]
        omega
      · refine ⟨d + c, ?_⟩
        simp only [if_true] at hc
        rw [Int.mul_add]
        omega
    obtain ⟨q, hq⟩ := e
    have q0 : 0 ≤ q := by
      rcases Int.lt_or_le q 0 with h | h
      · exfalso
        have := Int.mul_le_mul_of_nonneg_left (show q ≤ -1 by omega) (show 0 ≤ t by omega)
        omega
      · exact h
    have q1 : q ≤ 1 := by
      rcases Int.lt_or_le 1 q with h | h
      · exfalso
        have := Int.mul_le_mul_of_nonneg_left (show 2 ≤ q by omega) (show 0 ≤ t by omega)
        omega
      · exact h
    rcases (show q = 0 ∨ q = 1 by omega) with rfl | rfl
    · left; omega
    · right; omega
/-- Behind how many steps a beam would be at a corner. -/
def Zc (t0 t1 p q j : Int) : Prop := (∃ c : Int, p + j = t0 * c) ∧ (∃ c : Int, q + j = t1 * c)
theorem cor_Z (t0 t1 p q md x y : Int) (r u : Bool) (h0 : 1 ≤ t0) (h1 : 1 ≤ t1) (hb : inb t0 t1 x y) (hp : ph t0 x r (p + md)) (hq : ph t1 y u (q + md)) : cor t0 t1 x y = true ↔ Zc t0 t1 p q md := by
  unfold cor Zc
  rw [decide_eq_true_eq, ph_edge t0 x r _ h0 hb.1 hp, ph_edge t1 y u _ h1 hb.2 hq]
theorem st_ph (t0 t1 p q md x y : Int) (r u : Bool) (h0 : 1 ≤ t0) (h1 : 1 ≤ t1) (hp : ph t0 x r (p + md)) (hq : ph t1 y u (q + md)) : ph t0 (st t0 t1 x y r u).1 (st t0 t1 x y r u).2.2.1 (p + (md + 1)) ∧ ph t1 (st t0 t1 x y r u).2.1 (st t0 t1 x y r u).2.2.2.1 (q + (md + 1)) := by
  have a := ph_sg _ _ _ _ hp
  have b := ph_sg _ _ _ _ hq
  rw [show p + md + 1 = p + (md + 1) by omega] at a
  rw [show q + md + 1 = q + (md + 1) by omega] at b
  unfold st
  by_cases c : cor t0 t1 (x + sg r) (y + sg u) = true
  · rw [if_pos c]; exact ⟨a, b⟩
  · rw [if_neg c]; exact ⟨ph_tn _ _ _ _ h0 a, ph_tn _ _ _ _ h1 b⟩
theorem run_Z (t0 t1 p q : Int) (h0 : 1 ≤ t0) (h1 : 1 ≤ t1) : ∀ (m : Nat) (md x y : Int) (r u : Bool) (acc : ByteArray), 0 ≤ md → okb t0 t1 md x y r u → ph t0 x r (p + md) → ph t1 y u (q + md) →
    md ≤ (run t0 t1 m md x y r u acc).1 ∧ (run t0 t1 m md x y r u acc).1 ≤ md + m ∧ (md = 0 → 1 ≤ m → 1 ≤ (run t0 t1 m md x y r u acc).1) ∧ (∀ j, md ≤ j → j < (run t0 t1 m md x y r u acc).1 → j ≠ 0 → ¬ Zc t0 t1 p q j) ∧
    (cor t0 t1 (run t0 t1 m md x y r u acc).2.1 (run t0 t1 m md x y r u acc).2.2.1 = true ↔ Zc t0 t1 p q (run t0 t1 m md x y r u acc).1) ∧ ((run t0 t1 m md x y r u acc).1 < md + m → Zc t0 t1 p q (run t0 t1 m md x y r u acc).1) := by
  intro m
  induction m with
  | zero =>
    intro md x y r u acc hm ho hp hq
    simp only [run]
    exact ⟨Int.le_refl _, by omega, fun _ h => by omega, fun j a b => by omega, cor_Z t0 t1 p q md x y r u h0 h1 ho.1 hp hq, fun h => by omega⟩
  | succ m ih =>
    intro md x y r u acc hm ho hp hq
    have cz := cor_Z t0 t1 p q md x y r u h0 h1 ho.1 hp hq
    by_cases c : md ≠ 0 ∧ cor t0 t1 x y = true
    · have e : run t0 t1 (m + 1) md x y r u acc = (md, x, y, acc) := by rw [run, if_pos c]
      rw [e]
      exact ⟨Int.le_refl _, by omega, fun h => absurd h c.1, fun j a b => by omega, cz, fun _ => cz.1 c.2⟩
    · have e : run t0 t1 (m + 1) md x y r u acc = run t0 t1 m (md + 1) (st t0 t1 x y r u).1 (st t0 t1 x y r u).2.1 (st t0 t1 x y r u).2.2.1 (st t0 t1 x y r u).2.2.2.1 (acc ++ (st t0 t1 x y r u).2.2.2.2) := by rw [run, if_neg c]
      rw [e]
      have hs := st_ph t0 t1 p q md x y r u h0 h1 hp hq
      obtain ⟨a1, a2, a3, a4, a5, a6⟩ := ih (md + 1) _ _ _ _ (acc ++ (st t0 t1 x y r u).2.2.2.2) (by omega) (okb_st t0 t1 md x y r u h0 h1 hm (ho.2 c)) hs.1 hs.2
      refine ⟨by omega, by omega, fun _ _ => by omega, fun j b1 b2 b3 => ?_, a5, fun h => a6 (by omega)⟩
      rcases (show md = j ∨ md + 1 ≤ j by omega) with rfl | h
      · exact fun hz => c ⟨b3, cz.2 hz⟩
      · exact a4 j h b2 b3
/-- A beam that ends at all does so within width times height steps. -/
theorem ends (t0 t1 p q : Int) (h0 : 1 ≤ t0) (h1 : 1 ≤ t1) (A N : Nat) (x y : Int) (r u : Bool) (hA : t0 * t1 ≤ A) (hA1 : 1 ≤ A) (hAN : A ≤ N) (ho : okb t0 t1 0 x y r u) (hp : ph t0 x r p) (hq : ph t1 y u q)
    (hc : cor t0 t1 (run t0 t1 N 0 x y r u ⟨#[]⟩).2.1 (run t0 t1 N 0 x y r u ⟨#[]⟩).2.2.1 = true) : 0 < (run t0 t1 A 0 x y r u ⟨#[]⟩).1 ∧ cor t0 t1 (run t0 t1 A 0 x y r u ⟨#[]⟩).2.1 (run t0 t1 A 0 x y r u ⟨#[]⟩).2.2.1 = true := by
  obtain ⟨a1, a2, a3, a4, a5, a6⟩ := run_Z t0 t1 p q h0 h1 A 0 x y r u ⟨#[]⟩ (by omega) ho (by simpa using hp) (by simpa using hq)
  obtain ⟨b1, b2, b3, b4, b5, b6⟩ := run_Z t0 t1 p q h0 h1 N 0 x y r u ⟨#[]⟩ (by omega) ho (by simpa using hp) (by simpa using hq)
  have a3 := a3 rfl hA1
  have b3 := b3 rfl (by omega)
  refine ⟨by omega, a5.2 ?_⟩
  have hz := b5.1 hc
  rcases Int.lt_trichotomy (run t0 t1 A 0 x y r u ⟨#[]⟩).1 A with h | h | h
  · exact a6 (by omega)
  · rcases Int.lt_trichotomy (run t0 t1 N 0 x y r u ⟨#[]⟩).1 A with g | g | g
    · exact absurd hz (a4 _ (by omega) (by omega) (by omega))
    · rw [h, ← g]; exact hz
    · exfalso
      have hpos : 1 ≤ t0 * t1 := by
        have := Int.mul_le_mul h0 h1 (by omega) (by omega : (0:Int) ≤ t0)
        omega
      refine b4 ((run t0 t1 N 0 x y r u ⟨#[]⟩).1 - t0 * t1) (by omega) (by omega) (by omega) ?_
      obtain ⟨⟨c, hc⟩, ⟨d, hd⟩⟩ := hz
      refine ⟨⟨c - t1, ?_⟩, ⟨d - t0, ?_⟩⟩
      · rw [Int.mul_sub]; omega
      · rw [Int.mul_sub, Int.mul_comm t1 t0]; omega
  · omega


theorem ph_start (t x : Int) (r : Bool) : ph t x r (if r = true then x else -x) := ⟨0, by simp⟩
theorem both (a b c d : Int) (e f : Bool) (h : ((1 ≤ a ∧ a ≤ 60) ∧ (1 ≤ b ∧ b ≤ 60)) ∧ (0 ≤ c ∧ c ≤ a) ∧ (0 ≤ d ∧ d ≤ b)) :
    ∃ (K : Nat) (L : List S30) (S : ByteArray) (x : Int × Int) (y : Int), spec_beEnd.f K a b c d e f = some (L, S, true) ∧ (L.length : Int) = x.1 + 1 ∧ (∃ er eu, toO K a b c d e f = some (x.1, x.2, y, er, eu, S, true)) ∧ x.1 ≤ 100000 ∧ 0 ≤ x.1 ∧ (rd_T30 L x.1).f0 = x.2 ∧ (rd_T30 L x.1).f1 = y
      ∨ (∃ L S', spec_beEnd.f K a b c d e f = some (L, S', false)) ∧ toO K a b c d e f = some (0, 0, 0, false, false, S, false) := by
  have ho := turn_okb a b c d e f h.1.1.1 h.1.2.1 h.2
  have hm := mulb (a := a) (b := b) (A := 60) (B := 60) (by omega) h.1.1.2 (by omega) h.1.2.2
  have hm1 : 1 ≤ a * b := by
    have := Int.mul_le_mul h.1.1.1 h.1.2.1 (by omega) (by omega : (0:Int) ≤ a)
    omega
  have w1 : wrap64 (wrap64 (2 * a) * b) = 2 * (a * b) := by
    rw [wrap_id (x := 2 * a) (by omega) (by omega), Int.mul_assoc]; exact wrap_id (by omega) (by omega)
  have w2 : wrap64 (wrap64 (wrap64 (4 * a) * b) + 1) = 4 * (a * b) + 1 := by
    rw [wrap_id (x := 4 * a) (by omega) (by omega), Int.mul_assoc, wrap_id (x := 4 * (a * b)) (by omega) (by omega)]; exact wrap_id (by omega) (by omega)
  obtain ⟨M, hM⟩ : ∃ M : Nat, (M : Int) = a * b := ⟨(a * b).toNat, by omega⟩
  obtain ⟨K, hK⟩ : ∃ K : Nat, K = 20000 := ⟨_, rfl⟩
  obtain ⟨L, e1, eL, ex, ey⟩ := l0_run a b (4 * (a * b) + 1) h.1.1 h.1.2 (by omega) (4 * M + 1) (K + 1) 0 c d (tn a c e) (tn b d f) [⟨c, d, tn a c e, tn b d f⟩] ⟨#[]⟩ (by omega) (by omega) (by omega) ho rfl rfl (by simp [ByteArray.size])
  obtain ⟨er, eu, e2⟩ := fol_run a b (2 * (a * b)) h.1.1 h.1.2 (by omega) (2 * M) (K + 1) 0 c d (tn a c e) (tn b d f) ⟨#[]⟩ ⟨#[]⟩ (by omega) (by omega) (by omega) ho (by simp [ByteArray.size])
  rw [show (⟨#[]⟩ : ByteArray) ++ (⟨#[]⟩ : ByteArray) = ⟨#[]⟩ from rfl] at e2
  have pp := ph_start a c (tn a c e)
  have qq := ph_start b d (tn b d f)
  have zz := run_Z a b _ _ h.1.1.1 h.1.2.1 (4 * M + 1) 0 c d (tn a c e) (tn b d f) ⟨#[]⟩ (by omega) ho (by rw [Int.add_zero]; exact pp) (by rw [Int.add_zero]; exact qq)
  have hend : spec_beEnd.f (K + 1) a b c d e f = some (L, (run a b (4 * M + 1) 0 c d (tn a c e) (tn b d f) ⟨#[]⟩).2.2.2, cor a b (run a b (4 * M + 1) 0 c d (tn a c e) (tn b d f) ⟨#[]⟩).2.1 (run a b (4 * M + 1) 0 c d (tn a c e) (tn b d f) ⟨#[]⟩).2.2.1) := by
    have zl := zz.1
    have zm := zz.2.1
    simp only [spec_beEnd.f, spec_beLong.f, spec_beRun.f, w2, Option.bind_some]
    rw [turn_eq K a b c d e f h.1.1.1 h.1.2.1]
    simp only [Option.bind_some]
    rw [e1]
    simp only [Option.bind_some]
    rw [wrap_id (x := (L.length : Int) - 1) (by omega) (by omega), if_pos (by omega), if_pos (by omega), show (L.length : Int) - 1 = (run a b (4 * M + 1) 0 c d (tn a c e) (tn b d f) ⟨#[]⟩).1 by omega, cor_spec, ex, ey, Option.bind_some]
  have hto : toO (K + 1) a b c d e f = some (let R := fin a b er eu (run a b (2 * M) 0 c d (tn a c e) (tn b d f) ⟨#[]⟩); (R.2.1, R.2.2.1, R.2.2.2.1, R.2.2.2.2.1, R.2.2.2.2.2.1, R.1, R.2.2.2.2.2.2)) := by
    simp only [toO, beam_impl, Option.bind_some]
    rw [if_pos (decide_eq_true h), inward_eq a b c d e f h.1.1.1 h.1.2.1 h.2.1 h.2.2]
    simp only [Option.bind_some, w1]
    rw [e2]
    simp only [Option.bind_some]
  by_cases g : 0 < (run a b (2 * M) 0 c d (tn a c e) (tn b d f) ⟨#[]⟩).1 ∧ cor a b (run a b (2 * M) 0 c d (tn a c e) (tn b d f) ⟨#[]⟩).2.1 (run a b (2 * M) 0 c d (tn a c e) (tn b d f) ⟨#[]⟩).2.2.1 = true
  · have ee := run_ext a b (2 * M) (2 * M + 1) 0 c d (tn a c e) (tn b d f) ⟨#[]⟩ (by omega) g.2
    rw [show 2 * M + (2 * M + 1) = 4 * M + 1 by omega] at ee
    rw [fin_yes g] at hto
    rw [ee] at hend eL ex ey zz
    rw [g.2] at hend
    have zl := zz.1
    have zm := zz.2.1
    have y1 : (run a b (2 * M) 0 c d (tn a c e) (tn b d f) ⟨#[]⟩).1 ≤ 100000 := by omega
    exact ⟨K + 1, L, _, (_, _), _, Or.inl ⟨hend, eL, ⟨er, eu, hto⟩, y1, zl, ex, ey⟩⟩
  · rw [fin_no g] at hto
    have hn : cor a b (run a b (4 * M + 1) 0 c d (tn a c e) (tn b d f) ⟨#[]⟩).2.1 (run a b (4 * M + 1) 0 c d (tn a c e) (tn b d f) ⟨#[]⟩).2.2.1 = false := by
      rw [Bool.eq_false_iff]
      exact fun hc => g (ends a b _ _ h.1.1.1 h.1.2.1 (2 * M) (4 * M + 1) c d (tn a c e) (tn b d f) (by omega) (by omega) (by omega) ho pp qq hc)
    rw [hn] at hend
    exact ⟨K + 1, [], _, (0, 0), 0, Or.inr ⟨⟨L, _, hend⟩, hto⟩⟩
end FnExactCornerOfL
open FnExactCornerOfL

theorem FnExactCornerOf (a b c d : Int) (e f : Bool) (W : World) : Calls Try.prog 5 #[.agg #[.int .i64 a, .int .i64 b], .agg #[.int .i64 c, .int .i64 d, .bool e, .bool f]] W fun en w' => en = .returned (.bool true) ∧ Below W.heap.size W w' := by
  have key : ∃ k s o ex ey er eu R, spec_CornerOf.f k a b c d e f = some (ex, ey, o) ∧ toO k a b c d e f = some (s, ex, ey, er, eu, R, o) := by
    by_cases h : ((1 ≤ a ∧ a ≤ 60) ∧ (1 ≤ b ∧ b ≤ 60)) ∧ (0 ≤ c ∧ c ≤ a) ∧ (0 ≤ d ∧ d ≤ b)
    · obtain ⟨K, L, S, x, y, hk⟩ := both a b c d e f h
      rcases hk with ⟨h1, h2, ⟨er, eu, h3⟩, h4, h5, h6, h7⟩ | ⟨⟨L', S', h1⟩, h2⟩
      · refine ⟨K, x.1, true, x.2, y, er, eu, S, ?_, h3⟩
        simp only [spec_CornerOf.f, beam_spec, Option.bind_some]
        rw [if_pos (decide_eq_true h), h1, Option.bind_some]
        simp only [if_true]
        rw [wrap_id (x := (L.length : Int) - 1) (by omega) (by omega), if_pos (by omega), if_pos (by omega), show (L.length : Int) - 1 = x.1 by omega, h6, h7]
      · refine ⟨K, 0, false, 0, 0, false, false, S, ?_, h2⟩
        simp only [spec_CornerOf.f, beam_spec, Option.bind_some]
        rw [if_pos (decide_eq_true h), h1, Option.bind_some]
        simp
    · refine ⟨1, 0, false, 0, 0, false, false, ⟨#[]⟩, ?_, ?_⟩
      · simp only [spec_CornerOf.f, beam_spec, Option.bind_some]
        rw [if_neg (by simpa using h)]
      · simp only [toO, beam_impl, Option.bind_some]
        rw [if_neg (by simpa using h)]
  obtain ⟨k, s, o, ex, ey, er, eu, R, e1, e2⟩ := key
  exact CLaw.law_walk a b c d ex ey e f o (fun w => spec_CornerOf.calls k a b c d e f ex ey o w e1) (fun w => corner_walk k a b c d e f s ex ey er eu o R w e2) W

end Go.Proofs.Ytiembijmopimgaa.Pure
