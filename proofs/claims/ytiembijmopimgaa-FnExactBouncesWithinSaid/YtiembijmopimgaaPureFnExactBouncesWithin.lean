/- The plain law of FnExactBouncesWithin: for every argument the printed law function answers true. No condition beyond the statement's own. -/
import Derived.Test.YtiembijmopimgaaBWLaw
set_option linter.unusedVariables false
set_option linter.unusedSimpArgs false
namespace Go.Proofs.Ytiembijmopimgaa.Pure
open Go.RowKit Go.Proofs.Ytiembijmopimgaa.PFnExactBouncesWithin Go.Proofs.YtiembijmopimgaaW.PrintWords Go.Proofs.YtiembijmopimgaaW.PrintLast Go.Proofs.YtiembijmopimgaaW.PrintMore Go.Proofs.Ytiembijmopimgaa.Follow Go.Proofs.Ytiembijmopimgaa.BW
namespace FnExactBouncesWithinL
theorem wrap_id {x : Int} (h0 : -9223372036854775808 ≤ x) (h1 : x ≤ 9223372036854775807) : wrap64 x = x := by unfold wrap64; omega

theorem in_eq (a b c : Int) : spec_l1In.f a b c = some (decide (b ≤ a ∧ a ≤ c)) := by
  unfold spec_l1In.f
  by_cases h : a ≥ b
  · rw [if_pos h]; simp [h]
  · rw [if_neg h]; simp; omega

theorem within_eq (a b c : Int) : impl_within.f a b c = some (decide (b ≤ a ∧ a ≤ c)) := by
  unfold impl_within.f
  by_cases h : a ≥ b
  · rw [if_pos h]; simp [h]
  · rw [if_neg h]; simp; omega

theorem mulb {a b A B : Int} (ha : 0 ≤ a) (ha2 : a ≤ A) (hb : 0 ≤ b) (hb2 : b ≤ B) : 0 ≤ a * b ∧ a * b ≤ A * B :=
  ⟨Int.mul_nonneg ha hb, Int.mul_le_mul ha2 hb2 hb (by omega)⟩


theorem tab_spec (a b : Int) : spec_beTable.f a b = some (decide ((1 ≤ a ∧ a ≤ 60) ∧ (1 ≤ b ∧ b ≤ 60))) := by
  simp only [spec_beTable.f, in_eq, Option.bind_some, decide_eq_true_eq]
  by_cases h : 1 ≤ a ∧ a ≤ 60 <;> simp [h]

theorem tab_impl (a b : Int) : impl_IsTable.f a b = some (decide ((1 ≤ a ∧ a ≤ 60) ∧ (1 ≤ b ∧ b ≤ 60))) := by
  simp only [impl_IsTable.f, within_eq, Option.bind_some, decide_eq_true_eq]
  by_cases h : 1 ≤ a ∧ a ≤ 60 <;> simp [h]

theorem beam_spec (a b x y : Int) (r u : Bool) : spec_beGood.f a b x y r u = some (decide (((1 ≤ a ∧ a ≤ 60) ∧ (1 ≤ b ∧ b ≤ 60)) ∧ (0 ≤ x ∧ x ≤ a) ∧ (0 ≤ y ∧ y ≤ b))) := by
  simp only [spec_beGood.f, tab_spec, in_eq, Option.bind_some, decide_eq_true_eq]
  by_cases h : (1 ≤ a ∧ a ≤ 60) ∧ (1 ≤ b ∧ b ≤ 60) <;> by_cases h2 : 0 ≤ x ∧ x ≤ a <;> simp [h, h2]

theorem beam_impl (a b x y : Int) (r u : Bool) : impl_IsBeam.f a b x y r u = some (decide (((1 ≤ a ∧ a ≤ 60) ∧ (1 ≤ b ∧ b ≤ 60)) ∧ (0 ≤ x ∧ x ≤ a) ∧ (0 ≤ y ∧ y ≤ b))) := by
  simp only [impl_IsBeam.f, tab_impl, within_eq, Option.bind_some, decide_eq_true_eq]
  by_cases h : (1 ≤ a ∧ a ≤ 60) ∧ (1 ≤ b ∧ b ≤ 60) <;> by_cases h2 : 0 ≤ x ∧ x ≤ a <;> simp [h, h2]


def tn (t x : Int) (r : Bool) : Bool := if x = 0 then true else if x = t then false else r
def cor (t0 t1 x y : Int) : Bool := decide ((x = 0 ∨ x = t0) ∧ (y = 0 ∨ y = t1))
def sd_ (t0 t1 x y : Int) : ByteArray := if x = t0 then ⟨#[114]⟩ else if x = 0 then ⟨#[108]⟩ else if y = t1 then ⟨#[117]⟩ else if y = 0 then ⟨#[100]⟩ else ⟨#[]⟩
def st (t0 t1 x y : Int) (r u : Bool) : Int × Int × Bool × Bool × ByteArray :=
  if cor t0 t1 (x + sg r) (y + sg u) = true then (x + sg r, y + sg u, r, u, ⟨#[]⟩)
  else (x + sg r, y + sg u, tn t0 (x + sg r) r, tn t1 (y + sg u) u, sd_ t0 t1 (x + sg r) (y + sg u))
/-- steps made, place, sides: what a beam comes to. -/
def run (t0 t1 : Int) : Nat → Int → Int → Int → Bool → Bool → ByteArray → Int × Int × Int × ByteArray
  | 0, md, x, y, _, _, acc => (md, x, y, acc)
  | m + 1, md, x, y, r, u, acc =>
    if md ≠ 0 ∧ cor t0 t1 x y = true then (md, x, y, acc)
    else run t0 t1 m (md + 1) (st t0 t1 x y r u).1 (st t0 t1 x y r u).2.1 (st t0 t1 x y r u).2.2.1 (st t0 t1 x y r u).2.2.2.1 (acc ++ (st t0 t1 x y r u).2.2.2.2)

theorem j0_eq (k : Nat) (b : Bool) (t0 t1 x y : Int) (r u : Bool) (h1 : 1 ≤ t1) : spec_beTurn.j0 (k + 1) b t0 t1 x y r u = some (x, y, (if b = true then !r else r), tn t1 y u) := by
  unfold spec_beTurn.j0 tn
  by_cases a : y = t1
  · have : y ≠ 0 := by omega
    subst a
    cases b <;> cases u <;> simp [this]
  · rw [if_neg a]
    by_cases c : y = 0 <;> cases b <;> cases u <;> simp [a, c] <;> omega

theorem turn_eq (k : Nat) (t0 t1 x y : Int) (r u : Bool) (h0 : 1 ≤ t0) (h1 : 1 ≤ t1) : spec_beTurn.f (k + 1) t0 t1 x y r u = some (x, y, tn t0 x r, tn t1 y u) := by
  unfold spec_beTurn.f
  simp only [j0_eq k _ t0 t1 x y r u h1]
  by_cases a : x = t0
  · have : x ≠ 0 := by omega
    rw [if_pos a]
    have e : tn t0 x r = false := by unfold tn; rw [if_neg this, if_pos a]
    rw [e]
    cases r <;> simp [this]
  · rw [if_neg a]
    by_cases c : x = 0
    · rw [if_pos c]
      have e : tn t0 x r = true := by unfold tn; rw [if_pos c]
      rw [e]
      cases r <;> simp
    · rw [if_neg c]
      have e : tn t0 x r = r := by unfold tn; rw [if_neg c, if_neg a]
      rw [e]
      simp

theorem inward_eq (t0 t1 x y : Int) (r u : Bool) (h0 : 1 ≤ t0) (h1 : 1 ≤ t1) (hx : 0 ≤ x ∧ x ≤ t0) (hy : 0 ≤ y ∧ y ≤ t1) : impl_inward.f t0 t1 x y r u = some (x, y, tn t0 x r, tn t1 y u) := by
  unfold impl_inward.f tn
  by_cases a : x = 0
  · rw [if_pos a, if_pos a]
    by_cases c : y = 0
    · rw [if_pos c, if_pos c]
    · rw [if_neg c, if_neg c]
      by_cases d : y = t1
      · rw [if_pos d]; cases u <;> simp [d]
      · rw [if_neg d]; cases u <;> simp; omega
  · rw [if_neg a, if_neg a]
    by_cases c : y = 0
    · rw [if_pos c, if_pos c, if_pos c]
      by_cases d : x = t0
      · rw [if_pos d]; cases r <;> simp [d]
      · rw [if_neg d]; cases r <;> simp; omega
    · rw [if_neg c, if_neg c, if_neg c]
      by_cases d : y = t1
      · rw [if_pos d]
        by_cases f : x = t0
        · rw [if_pos f]; cases r <;> cases u <;> simp [d, f]
        · rw [if_neg f]; cases r <;> cases u <;> simp [d] <;> omega
      · rw [if_neg d]
        by_cases f : x = t0
        · rw [if_pos f]; cases r <;> cases u <;> simp [f] <;> omega
        · rw [if_neg f]; cases r <;> cases u <;> simp <;> omega

theorem cor_spec (t0 t1 x y : Int) (r u : Bool) : spec_beCorner.f t0 t1 x y r u = some (cor t0 t1 x y) := by
  unfold spec_beCorner.f cor
  by_cases a : x = 0 <;> by_cases b : x = t0 <;> by_cases c : y = 0 <;> by_cases d : y = t1 <;> simp [a, b, c, d]
theorem cor_impl (t0 t1 x y : Int) (r u : Bool) : impl_isCorner.f t0 t1 x y r u = some (cor t0 t1 x y) := by
  unfold impl_isCorner.f cor
  by_cases a : x = 0 <;> by_cases b : x = t0 <;> by_cases c : y = 0 <;> by_cases d : y = t1 <;> simp [a, b, c, d]

theorem sg_le (b : Bool) : -1 ≤ sg b ∧ sg b ≤ 1 := by cases b <;> simp [sg]

theorem move_eq (x y : Int) (r u : Bool) : spec_beMove.f x y r u = some (wrap64 (x + sg r), wrap64 (y + sg u), r, u) := by
  unfold spec_beMove.f sg
  cases r <;> cases u <;> simp [Int.sub_eq_add_neg]

def inb (t0 t1 x y : Int) : Prop := (0 ≤ x ∧ x ≤ t0) ∧ (0 ≤ y ∧ y ≤ t1)

theorem step_spec (k : Nat) (t0 t1 x y : Int) (r u : Bool) (h0 : 1 ≤ t0 ∧ t0 ≤ 60) (h1 : 1 ≤ t1 ∧ t1 ≤ 60) (hb : inb t0 t1 (x + sg r) (y + sg u)) : spec_beStep.f (k + 1) t0 t1 x y r u = some (st t0 t1 x y r u) := by
  obtain ⟨⟨a1, a2⟩, a3, a4⟩ := hb
  unfold spec_beStep.f st
  rw [move_eq]
  simp only [Option.bind_some]
  rw [wrap_id (x := x + sg r) (by omega) (by omega), wrap_id (x := y + sg u) (by omega) (by omega), cor_spec]
  simp only [Option.bind_some, turn_eq k t0 t1 _ _ _ _ h0.1 h1.1]
  unfold sd_
  by_cases c : cor t0 t1 (x + sg r) (y + sg u) = true
  · rw [if_pos c, if_pos c]
  · rw [if_neg c, if_neg c]
    by_cases c1 : x + sg r = t0
    · rw [if_pos c1, if_pos c1]
    · rw [if_neg c1, if_neg c1]
      by_cases c2 : x + sg r = 0
      · rw [if_pos c2, if_pos c2]
      · rw [if_neg c2, if_neg c2]
        by_cases c3 : y + sg u = t1
        · rw [if_pos c3, if_pos c3]
        · rw [if_neg c3, if_neg c3]
          by_cases c4 : y + sg u = 0
          · rw [if_pos c4, if_pos c4]
          · rw [if_neg c4, if_neg c4]

theorem step_impl (t0 t1 x y : Int) (r u : Bool) (h0 : 1 ≤ t0 ∧ t0 ≤ 60) (h1 : 1 ≤ t1 ∧ t1 ≤ 60) (hb : inb t0 t1 (x + sg r) (y + sg u)) : nextO t0 t1 x y r u = some (st t0 t1 x y r u) := by
  have hb' := hb
  obtain ⟨⟨a1, a2⟩, a3, a4⟩ := hb
  unfold nextO st
  rw [wrap_id (x := x + sg r) (by omega) (by omega), wrap_id (x := y + sg u) (by omega) (by omega), cor_impl, inward_eq _ _ _ _ _ _ h0.1 h1.1 hb'.1 hb'.2]
  simp only [Option.bind_some]
  unfold sd_
  by_cases c : cor t0 t1 (x + sg r) (y + sg u) = true
  · rw [if_pos c, if_pos c]
  · rw [if_neg c, if_neg c]
    by_cases c1 : x + sg r = t0
    · rw [if_pos c1, if_pos c1]
    · rw [if_neg c1, if_neg c1]
      by_cases c2 : x + sg r = 0
      · rw [if_pos c2, if_pos c2]
      · rw [if_neg c2, if_neg c2]
        by_cases c3 : y + sg u = t1
        · rw [if_pos c3, if_pos c3]
        · rw [if_neg c3, if_neg c3]
          by_cases c4 : y + sg u = 0
          · rw [if_pos c4, if_pos c4]
          · rw [if_neg c4, if_neg c4]
            have e1 : tn t0 (x + sg r) r = r := by unfold tn; rw [if_neg c2, if_neg c1]
            have e2 : tn t1 (y + sg u) u = u := by unfold tn; rw [if_neg c4, if_neg c3]
            rw [e1, e2]

theorem can (t x : Int) (r : Bool) (h : 1 ≤ t) (hx : 0 ≤ x ∧ x ≤ t) : 0 ≤ x + sg (tn t x r) ∧ x + sg (tn t x r) ≤ t := by
  unfold tn
  by_cases a : x = 0
  · rw [if_pos a]; simp [sg]; omega
  · rw [if_neg a]
    by_cases b : x = t
    · rw [if_pos b]; simp [sg]; omega
    · rw [if_neg b]; have := sg_le r; omega

/-- On the table, and it can go on unless it has ended. -/
def okb (t0 t1 md x y : Int) (r u : Bool) : Prop := inb t0 t1 x y ∧ (¬ (md ≠ 0 ∧ cor t0 t1 x y = true) → inb t0 t1 (x + sg r) (y + sg u))

theorem okb_st (t0 t1 md x y : Int) (r u : Bool) (h0 : 1 ≤ t0) (h1 : 1 ≤ t1) (hm : 0 ≤ md) (hb : inb t0 t1 (x + sg r) (y + sg u)) : okb t0 t1 (md + 1) (st t0 t1 x y r u).1 (st t0 t1 x y r u).2.1 (st t0 t1 x y r u).2.2.1 (st t0 t1 x y r u).2.2.2.1 := by
  unfold st
  by_cases c : cor t0 t1 (x + sg r) (y + sg u) = true
  · rw [if_pos c]
    exact ⟨hb, fun h => absurd ⟨by omega, c⟩ h⟩
  · rw [if_neg c]
    exact ⟨hb, fun _ => ⟨can _ _ _ h0 hb.1, can _ _ _ h1 hb.2⟩⟩

theorem side_size (t0 t1 x y : Int) (r u : Bool) : (st t0 t1 x y r u).2.2.2.2.size ≤ 1 := by
  unfold st sd_
  by_cases c : cor t0 t1 (x + sg r) (y + sg u) = true
  · rw [if_pos c]; simp [ByteArray.size]
  · rw [if_neg c]
    simp only
    split
    · simp [ByteArray.size]
    · split
      · simp [ByteArray.size]
      · split
        · simp [ByteArray.size]
        · split <;> simp [ByteArray.size]

theorem rd_last (L : List S30) (b : S30) (i : Int) (h : i = (L.length : Int)) : rd_T30 (L ++ [b]) i = b := by
  subst h; simp [rd_T30]

theorem l0_run (t0 t1 n : Int) (h0 : 1 ≤ t0 ∧ t0 ≤ 60) (h1 : 1 ≤ t1 ∧ t1 ≤ 60) (hn : n ≤ 100000) : ∀ (m k : Nat) (md x y : Int) (r u : Bool) (L : List S30) (acc : ByteArray), m + 2 ≤ k → 0 ≤ md → md + m = n → okb t0 t1 md x y r u → (L.length : Int) = md + 1 → rd_T30 L md = ⟨x, y, r, u⟩ → (acc.size : Int) ≤ md →
    ∃ L', spec_beRun.l0 k n L acc md t0 t1 = some (L', (run t0 t1 m md x y r u acc).2.2.2) ∧ (L'.length : Int) = (run t0 t1 m md x y r u acc).1 + 1 ∧ (rd_T30 L' (run t0 t1 m md x y r u acc).1).f0 = (run t0 t1 m md x y r u acc).2.1 ∧ (rd_T30 L' (run t0 t1 m md x y r u acc).1).f1 = (run t0 t1 m md x y r u acc).2.2.1 := by
  intro m
  induction m with
  | zero =>
    intro k md x y r u L acc hk hm hmn ho hL hr ha
    obtain ⟨k, rfl⟩ : ∃ j, k = j + 1 := ⟨k - 1, by omega⟩
    rw [spec_beRun.l0, if_neg (by omega)]
    simp only [run]
    exact ⟨L, rfl, hL, by rw [hr], by rw [hr]⟩
  | succ m ih =>
    intro k md x y r u L acc hk hm hmn ho hL hr ha
    obtain ⟨k, rfl⟩ : ∃ j, k = j + 2 := ⟨k - 2, by omega⟩
    rw [spec_beRun.l0, if_pos (by omega)]
    have hs := side_size t0 t1 x y r u
    have go : ∀ (hc : ¬ (md ≠ 0 ∧ cor t0 t1 x y = true)), ∃ L', ((spec_beStep.f (k + 1) t0 t1 ((rd_T30 L md).f0) ((rd_T30 L md).f1) ((rd_T30 L md).f2) ((rd_T30 L md).f3)).bind fun bt158 => (if L.length < 5864062014805 then (if acc.size + bt158.2.2.2.2.size ≤ 9223372036854775807 then (spec_beRun.l0 (k + 1) n (L ++ [(⟨bt158.1, bt158.2.1, bt158.2.2.1, bt158.2.2.2.1⟩ : S30)]) (acc ++ bt158.2.2.2.2) (wrap64 (md + 1)) t0 t1) else (none)) else (none))) = some (L', (run t0 t1 (m + 1) md x y r u acc).2.2.2) ∧ (L'.length : Int) = (run t0 t1 (m + 1) md x y r u acc).1 + 1 ∧ (rd_T30 L' (run t0 t1 (m + 1) md x y r u acc).1).f0 = (run t0 t1 (m + 1) md x y r u acc).2.1 ∧ (rd_T30 L' (run t0 t1 (m + 1) md x y r u acc).1).f1 = (run t0 t1 (m + 1) md x y r u acc).2.2.1 := by
      intro hc
      have hb := ho.2 hc
      rw [hr]
      simp only []
      rw [step_spec k t0 t1 x y r u h0 h1 hb, Option.bind_some, if_pos (by omega), if_pos (by omega), wrap_id (by omega) (by omega)]
      simp only [run]
      rw [if_neg hc]
      refine ih (k + 1) (md + 1) _ _ _ _ _ _ (by omega) (by omega) (by omega) (okb_st t0 t1 md x y r u h0.1 h1.1 hm hb) (by simp; omega) (rd_last _ _ _ (by omega)) ?_
      rw [ByteArray.size_append]
      omega
    by_cases z : md = 0
    · rw [if_pos z, if_pos hm, if_pos (by omega)]
      exact go (fun h => h.1 z)
    · rw [if_neg z, if_pos hm, if_pos (by omega), hr]
      simp only []
      rw [cor_spec, Option.bind_some]
      by_cases c : cor t0 t1 x y = true
      · rw [if_pos c]
        simp only [run]
        rw [if_pos ⟨z, c⟩]
        exact ⟨L, rfl, hL, by rw [hr], by rw [hr]⟩
      · rw [if_neg c]
        have := go (fun h => c h.2)
        rw [hr] at this
        exact this

theorem turn_okb (t0 t1 x y : Int) (r u : Bool) (h0 : 1 ≤ t0) (h1 : 1 ≤ t1) (hb : inb t0 t1 x y) : okb t0 t1 0 x y (tn t0 x r) (tn t1 y u) :=
  ⟨hb, fun _ => ⟨can _ _ _ h0 hb.1, can _ _ _ h1 hb.2⟩⟩


theorem fol_run (t0 t1 n : Int) (h0 : 1 ≤ t0 ∧ t0 ≤ 60) (h1 : 1 ≤ t1 ∧ t1 ≤ 60) (hn : n ≤ 100000) : ∀ (m k : Nat) (md x y : Int) (r u : Bool) (sd acc : ByteArray), m + 1 ≤ k → 0 ≤ md → md + m = n → okb t0 t1 md x y r u → (acc.size : Int) + (sd.size : Int) ≤ md →
    fol k n t0 t1 x y r u sd md acc = some (run t0 t1 m md x y r u (acc ++ sd)).2.2.2 := by
  intro m
  induction m with
  | zero =>
    intro k md x y r u sd acc hk hm hmn ho ha
    obtain ⟨k, rfl⟩ : ∃ j, k = j + 1 := ⟨k - 1, by omega⟩
    rw [fol, if_pos (by omega), if_neg (by omega)]
    simp only [run]
  | succ m ih =>
    intro k md x y r u sd acc hk hm hmn ho ha
    obtain ⟨k, rfl⟩ : ∃ j, k = j + 1 := ⟨k - 1, by omega⟩
    rw [fol, if_pos (by omega), if_pos (by omega)]
    have hs := side_size t0 t1 x y r u
    have go : ∀ (hc : ¬ (md ≠ 0 ∧ cor t0 t1 x y = true)), ((nextO t0 t1 x y r u).bind fun b => fol k n t0 t1 b.1 b.2.1 b.2.2.1 b.2.2.2.1 b.2.2.2.2 (wrap64 (md + 1)) (acc ++ sd)) = some (run t0 t1 (m + 1) md x y r u (acc ++ sd)).2.2.2 := by
      intro hc
      have hb := ho.2 hc
      rw [step_impl t0 t1 x y r u h0 h1 hb, Option.bind_some, wrap_id (by omega) (by omega)]
      simp only [run]
      rw [if_neg hc]
      refine ih k (md + 1) _ _ _ _ _ _ (by omega) (by omega) (by omega) (okb_st t0 t1 md x y r u h0.1 h1.1 hm hb) ?_
      rw [ByteArray.size_append]
      omega
    by_cases z : md = 0
    · rw [if_pos z]
      exact go (fun h => h.1 z)
    · rw [if_neg z, cor_impl, Option.bind_some]
      by_cases c : cor t0 t1 x y = true
      · rw [if_pos c]
        simp only [run]
        rw [if_pos ⟨z, c⟩]
      · rw [if_neg c]
        exact go (fun h => c h.2)



end FnExactBouncesWithinL
open FnExactBouncesWithinL

theorem FnExactBouncesWithin (a b c d : Int) (e f : Bool) (n : Int) (W : World) : Calls Try.prog 3 #[.agg #[.int .i64 a, .int .i64 b], .agg #[.int .i64 c, .int .i64 d, .bool e, .bool f], .int .i64 n] W fun en w' => en = .returned (.bool true) ∧ Below W.heap.size W w' := by
  have key : ∃ k s o, spec_BouncesWithin.f k a b c d e f n = some (s, o) ∧ bwO k a b c d e f n = some (s, o) := by
    by_cases h : ((1 ≤ a ∧ a ≤ 60) ∧ (1 ≤ b ∧ b ≤ 60)) ∧ (0 ≤ c ∧ c ≤ a) ∧ (0 ≤ d ∧ d ≤ b)
    · by_cases h2 : 0 ≤ n ∧ n ≤ 1000
      · obtain ⟨K, hK⟩ : ∃ K : Nat, K = 1009 := ⟨_, rfl⟩
        have ho := turn_okb a b c d e f h.1.1.1 h.1.2.1 h.2
        obtain ⟨L', e1, -, -, -⟩ := l0_run a b n h.1.1 h.1.2 (by omega) n.toNat (K + 1) 0 c d (tn a c e) (tn b d f) [⟨c, d, tn a c e, tn b d f⟩] ⟨#[]⟩ (by omega) (by omega) (by omega) ho rfl rfl (by simp [ByteArray.size])
        have e2 := fol_run a b n h.1.1 h.1.2 (by omega) n.toNat (K + 1) 0 c d (tn a c e) (tn b d f) ⟨#[]⟩ ⟨#[]⟩ (by omega) (by omega) (by omega) ho (by simp [ByteArray.size])
        refine ⟨K + 1, (run a b n.toNat 0 c d (tn a c e) (tn b d f) ⟨#[]⟩).2.2.2, true, ?_, ?_⟩
        · simp only [spec_BouncesWithin.f, spec_beAsked.f, beam_spec, in_eq, Option.bind_some]
          rw [if_pos (decide_eq_true h), Option.bind_some, if_pos (decide_eq_true h2)]
          simp only [spec_beRun.f]
          rw [turn_eq K a b c d e f h.1.1.1 h.1.2.1]
          simp only [Option.bind_some]
          rw [e1]
          rfl
        · simp only [bwO, beam_impl, within_eq, Option.bind_some]
          rw [if_pos (decide_eq_true h), if_pos (decide_eq_true h2), inward_eq a b c d e f h.1.1.1 h.1.2.1 h.2.1 h.2.2]
          simp only [Option.bind_some]
          rw [e2]
          rfl
      · refine ⟨1, ⟨#[]⟩, false, ?_, ?_⟩
        · simp only [spec_BouncesWithin.f, spec_beAsked.f, beam_spec, in_eq, Option.bind_some]
          rw [if_pos (decide_eq_true h), Option.bind_some, if_neg (by simpa using h2)]
        · simp only [bwO, beam_impl, within_eq, Option.bind_some]
          rw [if_pos (decide_eq_true h), if_neg (by simpa using h2)]
    · refine ⟨1, ⟨#[]⟩, false, ?_, ?_⟩
      · simp only [spec_BouncesWithin.f, spec_beAsked.f, beam_spec, in_eq, Option.bind_some]
        rw [if_neg (by simpa using h)]
        simp
      · simp only [bwO, beam_impl, within_eq, Option.bind_some]
        rw [if_neg (by simpa using h)]
  obtain ⟨k, s, o, e1, e2⟩ := key
  exact BWLaw.law_walk a b c d n e f o s (fun w => spec_BouncesWithin.calls k a b c d e f n s o w e1) (fun w => bw_walk k a b c d e f n s o w e2) W

end Go.Proofs.Ytiembijmopimgaa.Pure
