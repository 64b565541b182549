/- The premises of the walk of FnLaddersCrossOfAll, for all arguments. No condition. -/
import Derived.Test.YtkhhlnpiogfofaaDoorLCPure
namespace Go.Proofs.YtkhhlnpiogfofaaDoor.LCPure
open Go.RowKit Go.Proofs.YtkhhlnpiogfofaaDoor.PFnLaddersCrossOfAll Go.Proofs.YtkhhlnpiogfofaaDoorW.PrintWords Go.Proofs.YtkhhlnpiogfofaaDoorW.PrintLast Go.Proofs.YtkhhlnpiogfofaaDoorW.PrintMore Go.Proofs.YtkhhlnpiogfofaaDoor.Given
set_option linter.unusedVariables false
set_option linter.unusedSimpArgs false
theorem text_all (k : Nat) (hk : 2000000000 ≤ k) (a b c : Int) (h : G a b c) : ∃ t, impl_LaddersText.f a b c = some (t, true) ∧ spec_LaddersText.f k a b c = some (t, true) ∧ impl_ParseLadders.f t = some (a, b, c, true) := by
  obtain ⟨x, rfl⟩ : ∃ x : Nat, a = x := ⟨a.toNat, by have := h.1; omega⟩
  obtain ⟨y, rfl⟩ : ∃ x : Nat, b = x := ⟨b.toNat, by have := h.2.1; omega⟩
  obtain ⟨z, rfl⟩ : ∃ x : Nat, c = x := ⟨c.toNat, by have := h.2.2; omega⟩
  exact ⟨_, ltextI x y z h, ltextS k hk x y z h, parseI x y z h⟩

set_option maxHeartbeats 1000000 in
/-- All that the law asks of ladders' own numbers. -/
theorem partL (k : Nat) (hk : 2000000000 ≤ k) (a0_0 a0_1 a0_2 : Int) : ∃ (t261 t262 t267 t268 t273 t274 t279 t280 t285 t293 t294 t295 : Int) (t289 : ByteArray) (o : Bool), (Aside0 (impl_CrossHeight.f k a0_0 a0_1 a0_2 = some (t261, t262, o))) ∧ (Aside0 (spec_CrossHeight.f k a0_0 a0_1 a0_2 = some (t261, t262, o))) ∧ (Aside0 (impl_CrossPlace.f k a0_0 a0_1 a0_2 = some (t267, t268, o))) ∧ (Aside0 (spec_CrossPlace.f k a0_0 a0_1 a0_2 = some (t267, t268, o))) ∧ (Aside0 (impl_AreaBelow.f k a0_0 a0_1 a0_2 = some (t273, t274, o))) ∧ (Aside0 (spec_AreaBelow.f k a0_0 a0_1 a0_2 = some (t273, t274, o))) ∧ (Aside0 (impl_AreaBetween.f k a0_0 a0_1 a0_2 = some (t279, t280, o))) ∧ (Aside0 (spec_AreaBetween.f k a0_0 a0_1 a0_2 = some (t279, t280, o))) ∧ (Aside0 (impl_LongestStick.f a0_0 a0_1 a0_2 = some (t285, o))) ∧ (Aside0 (spec_LongestStick.f a0_0 a0_1 a0_2 = some (t285, o))) ∧ (Aside0 (impl_LaddersText.f a0_0 a0_1 a0_2 = some (t289, o))) ∧ (Aside0 (spec_LaddersText.f k a0_0 a0_1 a0_2 = some (t289, o))) ∧ (Aside0 (impl_MirrorLadders.f a0_0 a0_1 a0_2 = some (t293, t294, t295, o))) ∧ (Aside0 (spec_MirrorLadders.f a0_0 a0_1 a0_2 = some (t293, t294, t295, o))) ∧ (Aside0 (impl_AreLadders.f a0_0 a0_1 a0_2 = some o)) ∧ (Aside0 (spec_AreLadders.f a0_0 a0_1 a0_2 = some o)) ∧ (Aside0 (o = true → ∃ t309 : Int, Aside0 (impl_CrossHeight.f k t293 t294 t295 = some (t261, t262, true)) ∧ Aside0 (impl_CrossPlace.f k t293 t294 t295 = some (t309, t268, true)) ∧ Aside0 (impl_ParseLadders.f t289 = some (a0_0, a0_1, a0_2, true)) ∧ Aside0 (laws_jIs.f k t261 t262 (wrap64 (a0_1 * a0_2)) (wrap64 (a0_1 + a0_2)) = some true) ∧ Aside0 (laws_jIs.f k t267 t268 (wrap64 (a0_0 * a0_1)) (wrap64 (a0_1 + a0_2)) = some true) ∧ Aside0 (laws_jLow.f k t273 t274 = some true) ∧ Aside0 (laws_jLow.f k t279 t280 = some true) ∧ Aside0 ((wrap64 ((wrap64 (t273 * 2)) * t262)) = (wrap64 ((wrap64 (t274 * a0_0)) * t261))) ∧ Aside0 (¬ (t262 = 0)) ∧ Aside0 (t285 = (wrap64 (Int.tdiv t261 t262))) ∧ Aside0 ((wrap64 (t309 + t267)) = (wrap64 (a0_0 * t268))) ∧ Aside0 ((wrap64 ((wrap64 ((wrap64 (t279 * t274)) * 2)) + (wrap64 ((wrap64 (t273 * t280)) * 2)))) = (wrap64 ((wrap64 ((wrap64 (a0_0 * (wrap64 (a0_1 + a0_2)))) * t280)) * t274))) ∧ Aside0 ((decide (t261 ≤ 1000) && decide (t262 ≤ 1000)) = true → Aside0 (impl_OtherHeight.f k a0_1 t261 t262 = some (a0_2, 1, true))))) := by
  by_cases h : G a0_0 a0_1 a0_2
  · obtain ⟨tx, tx1, tx2, tx3⟩ := text_all k hk a0_0 a0_1 a0_2 h
    generalize a0_0 = a at *
    generalize a0_1 = b at *
    generalize a0_2 = c at *
    obtain ⟨c1, c2⟩ := crossH k hk a b c h
    obtain ⟨p1, p2⟩ := crossP k hk a b c h
    obtain ⟨b1, b2⟩ := areaB k hk a b c h
    obtain ⟨w1, w2⟩ := areaW k hk a b c h
    obtain ⟨s1, s2⟩ := stick a b c h
    obtain ⟨m1, m2⟩ := mirror a b c h
    have hm : G a c b := ⟨h.1, h.2.2, h.2.1⟩
    obtain ⟨cm, -⟩ := crossH k hk a c b hm
    obtain ⟨pm, -⟩ := crossP k hk a c b hm
    obtain ⟨d1, d2⟩ := mirror_eq h
    have n1 := bc h.2.1 h.2.2
    have n2 := bc h.1 h.2.1
    have n3 := abc h
    have n4 := between_bd h.2.1 h.2.2
    have ha := h.1
    have hb := h.2.1
    have hc := h.2.2
    have n5 := mulb (a := a) (b := (b + c) * (b + c) - b * c) (A := 1000) (B := 4000000) (by omega) (by omega) n4.1 n4.2
    rw [Int.mul_comm c b, Int.add_comm c b] at cm
    rw [d1] at pm
    have z1 : wrap64 (b * c) = b * c := wrap_id (by omega) (by omega)
    have z2 : wrap64 (b + c) = b + c := wrap_id (by omega) (by omega)
    have z3 : wrap64 (a * b) = a * b := wrap_id (by omega) (by omega)
    obtain ⟨g1, g10, e1, e2, q0, q1, qx, qy, hg1⟩ := nd (a * b * c) (2 * (b + c)) (by omega) (by omega)
    obtain ⟨g2, g20, e3, e4, r0, r1, rx, ry, hg2⟩ := nd (a * ((b + c) * (b + c) - b * c)) (2 * (b + c)) (by omega) (by omega)
    obtain ⟨g3, g30, e5, e6, u0, u1, ux, uy, hg3⟩ := nd (b * c) (b + c) (by omega) (by omega)
    refine ⟨_, _, _, _, _, _, _, _, _, _, _, _, _, true, ⟨c1⟩, ⟨c2⟩, ⟨p1⟩, ⟨p2⟩, ⟨b1⟩, ⟨b2⟩, ⟨w1⟩, ⟨w2⟩, ⟨s1⟩, ⟨s2⟩, ⟨tx1⟩, ⟨tx2⟩, ⟨m1⟩, ⟨m2⟩, ⟨by rw [are_i, decide_eq_true h]⟩, ⟨by simp only [spec_AreLadders.f, are_s, decide_eq_true h, Option.bind_some]⟩, ⟨fun _ => ⟨_, ⟨cm⟩, ⟨pm⟩, ⟨tx3⟩, ⟨?_⟩, ⟨?_⟩, ⟨?_⟩, ⟨?_⟩, ⟨?_⟩, ⟨?_⟩, ⟨?_⟩, ⟨?_⟩, ⟨?_⟩, ⟨?_⟩⟩⟩⟩
    · rw [z1, z2]
      exact jis k hk _ _ (by omega) (by omega) (by omega) (by omega)
    · rw [z3, z2]
      exact jis k hk _ _ (by omega) (by omega) (by omega) (by omega)
    · exact jlow k _ _ q0 q1 (by omega) hg1 hk
    · exact jlow k _ _ r0 r1 (by omega) hg2 hk
    · exact low_eq h
    · omega
    · exact stick_eq hb hc
    · exact d2
    · rw [z2]
      exact area_eq h
    · intro h9
      rw [Bool.and_eq_true, decide_eq_true_eq, decide_eq_true_eq] at h9
      exact ⟨other_back k hk hb hc h9.1 h9.2⟩
  · have i1 : impl_CrossHeight.f k a0_0 a0_1 a0_2 = some (0, 0, false) := by simp only [impl_CrossHeight.f, are_i, Option.bind_some, decide_eq_true_eq]; rw [if_neg h]
    have i2 : spec_CrossHeight.f k a0_0 a0_1 a0_2 = some (0, 0, false) := by simp only [spec_CrossHeight.f, are_s, Option.bind_some, decide_eq_true_eq]; rw [if_neg h]
    have i3 : impl_CrossPlace.f k a0_0 a0_1 a0_2 = some (0, 0, false) := by simp only [impl_CrossPlace.f, are_i, Option.bind_some, decide_eq_true_eq]; rw [if_neg h]
    have i4 : spec_CrossPlace.f k a0_0 a0_1 a0_2 = some (0, 0, false) := by simp only [spec_CrossPlace.f, are_s, Option.bind_some, decide_eq_true_eq]; rw [if_neg h]
    have i5 : impl_AreaBelow.f k a0_0 a0_1 a0_2 = some (0, 0, false) := by simp only [impl_AreaBelow.f, are_i, Option.bind_some, decide_eq_true_eq]; rw [if_neg h]
    have i6 : spec_AreaBelow.f k a0_0 a0_1 a0_2 = some (0, 0, false) := by simp only [spec_AreaBelow.f, are_s, Option.bind_some, decide_eq_true_eq]; rw [if_neg h]
    have i7 : impl_AreaBetween.f k a0_0 a0_1 a0_2 = some (0, 0, false) := by simp only [impl_AreaBetween.f, are_i, Option.bind_some, decide_eq_true_eq]; rw [if_neg h]
    have i8 : spec_AreaBetween.f k a0_0 a0_1 a0_2 = some (0, 0, false) := by simp only [spec_AreaBetween.f, are_s, Option.bind_some, decide_eq_true_eq]; rw [if_neg h]
    have i9 : impl_LongestStick.f a0_0 a0_1 a0_2 = some (0, false) := by simp only [impl_LongestStick.f, are_i, Option.bind_some, decide_eq_true_eq]; rw [if_neg h]
    have i10 : spec_LongestStick.f a0_0 a0_1 a0_2 = some (0, false) := by simp only [spec_LongestStick.f, are_s, Option.bind_some, decide_eq_true_eq]; rw [if_neg h]
    have i11 : impl_LaddersText.f a0_0 a0_1 a0_2 = some ((⟨#[]⟩ : ByteArray), false) := by simp only [impl_LaddersText.f, are_i, Option.bind_some, decide_eq_true_eq]; rw [if_neg h]
    have i12 : spec_LaddersText.f k a0_0 a0_1 a0_2 = some ((⟨#[]⟩ : ByteArray), false) := by simp only [spec_LaddersText.f, are_s, Option.bind_some, decide_eq_true_eq]; rw [if_neg h]
    have i13 : impl_MirrorLadders.f a0_0 a0_1 a0_2 = some (0, 0, 0, false) := by simp only [impl_MirrorLadders.f, chk, Option.bind_some]; rw [if_neg (fun x : G a0_0 a0_2 a0_1 => h ⟨x.1, x.2.2, x.2.1⟩)]
    have i14 : spec_MirrorLadders.f a0_0 a0_1 a0_2 = some (0, 0, 0, false) := by simp only [spec_MirrorLadders.f, are_s, Option.bind_some, decide_eq_true_eq]; rw [if_neg h]
    exact ⟨0, 0, 0, 0, 0, 0, 0, 0, 0, 0, 0, 0, _, false, ⟨i1⟩, ⟨i2⟩, ⟨i3⟩, ⟨i4⟩, ⟨i5⟩, ⟨i6⟩, ⟨i7⟩, ⟨i8⟩, ⟨i9⟩, ⟨i10⟩, ⟨i11⟩, ⟨i12⟩, ⟨i13⟩, ⟨i14⟩, ⟨by rw [are_i, decide_eq_false h]⟩, ⟨by simp only [spec_AreLadders.f, are_s, decide_eq_false h, Option.bind_some]⟩, ⟨fun h => by cases h⟩⟩

theorem partU (k : Nat) (hk : 2000000000 ≤ k) (a1_0 a1_1 a1_2 a3 : Int) (a2 : Bool) : ∃ (t324 t325 t330 t331 : Int) (p : Bool), (Aside0 (impl_HeightAt.f (k + 1) a1_0 a1_1 a1_2 a2 a3 = some (t324, t325, p))) ∧ (Aside0 (spec_HeightAt.f (k + 1) a1_0 a1_1 a1_2 a2 a3 = some (t324, t325, p))) ∧ (Aside0 (impl_HighestAt.f (k + 1) a1_0 a1_1 a1_2 a3 = some (t330, t331, p))) ∧ (Aside0 (spec_HighestAt.f (k + 1) a1_0 a1_1 a1_2 a3 = some (t330, t331, p))) ∧ (Aside0 (p = true → ∃ t352 t353 : Int, Aside0 (impl_HeightAt.f (k + 1) a1_0 a1_1 a1_2 (!a2) a3 = some (t352, t353, true)) ∧ Aside0 ((wrap64 (t324 * t331)) ≤ (wrap64 (t330 * t325))) ∧ Aside0 ((wrap64 (t352 * t331)) ≤ (wrap64 (t330 * t353))) ∧ Aside0 ((wrap64 (t330 * t325)) = (wrap64 (t324 * t331)) ∨ (wrap64 (t330 * t353)) = (wrap64 (t352 * t331))))) := by
  by_cases h : G a1_0 a1_1 a1_2 ∧ (0 ≤ a3 ∧ a3 ≤ a1_0)
  · obtain ⟨h, h2⟩ := h
    obtain ⟨x1, x2⟩ := heightAt k hk a1_0 a1_1 a1_2 a3 a2 h h2
    obtain ⟨y1, -⟩ := heightAt k hk a1_0 a1_1 a1_2 a3 (!a2) h h2
    obtain ⟨z1, z2⟩ := highestAt k hk a1_0 a1_1 a1_2 a3 h h2
    have m := hgt_bd h h2
    have h0 : ∀ r, 0 ≤ hgt a1_0 a1_1 a1_2 r a3 := fun r => by unfold hgt; cases r <;> simp <;> omega
    have hT : top a1_0 a1_1 a1_2 a3 ≤ 1000000 := by unfold top mx; omega
    refine ⟨_, _, _, _, true, ⟨x1⟩, ⟨x2⟩, ⟨z1⟩, ⟨z2⟩, ⟨fun _ => ⟨_, _, ⟨y1⟩, ⟨Int.not_lt.1 (frac_le (h0 _) (hgt_top ..) hT h.1)⟩, ⟨Int.not_lt.1 (frac_le (h0 _) (hgt_top ..) hT h.1)⟩, ⟨?_⟩⟩⟩⟩
    rcases top_hgt a1_0 a1_1 a1_2 a3 a2 with e | e
    · exact Or.inl (by rw [e])
    · exact Or.inr (by rw [e])
  · have i1 : ∀ r, impl_HeightAt.f (k + 1) a1_0 a1_1 a1_2 r a3 = some (0, 0, false) := fun r => by
      simp only [impl_HeightAt.f, impl_HeightAt.j0, are_i, within_eq, Option.bind_some, decide_eq_true_eq]
      by_cases h1 : G a1_0 a1_1 a1_2
      · have e : (!decide (0 ≤ a3 ∧ a3 ≤ a1_0)) = true := by rw [decide_eq_false (fun x => h ⟨h1, x⟩)]; rfl
        rw [if_pos h1, e]; rfl
      · rw [if_neg h1]; rfl
    have i2 : ∀ r, spec_HeightAt.f (k + 1) a1_0 a1_1 a1_2 r a3 = some (0, 0, false) := fun r => by
      simp only [spec_HeightAt.f, spec_clAsked.f, are_s, in_eq, Option.bind_some, decide_eq_true_eq]
      by_cases h1 : G a1_0 a1_1 a1_2
      · have e : ¬ (0 ≤ a3 ∧ a3 ≤ a1_0) := fun x => h ⟨h1, x⟩
        rw [if_pos h1]; simp only [Option.bind_some, decide_eq_true_eq]; rw [if_neg e]
      · rw [if_neg h1]; rfl
    have i3 : impl_HighestAt.f (k + 1) a1_0 a1_1 a1_2 a3 = some (0, 0, false) := by
      simp only [impl_HighestAt.f, impl_HighestAt.j0, are_i, within_eq, Option.bind_some, decide_eq_true_eq]
      by_cases h1 : G a1_0 a1_1 a1_2
      · have e : (!decide (0 ≤ a3 ∧ a3 ≤ a1_0)) = true := by rw [decide_eq_false (fun x => h ⟨h1, x⟩)]; rfl
        rw [if_pos h1, e]; rfl
      · rw [if_neg h1]; rfl
    have i4 : spec_HighestAt.f (k + 1) a1_0 a1_1 a1_2 a3 = some (0, 0, false) := by
      simp only [spec_HighestAt.f, spec_clAsked.f, are_s, in_eq, Option.bind_some, decide_eq_true_eq]
      by_cases h1 : G a1_0 a1_1 a1_2
      · have e : ¬ (0 ≤ a3 ∧ a3 ≤ a1_0) := fun x => h ⟨h1, x⟩
        rw [if_pos h1]; simp only [Option.bind_some, decide_eq_true_eq]; rw [if_neg e]
      · rw [if_neg h1]; rfl
    exact ⟨0, 0, 0, 0, false, ⟨i1 _⟩, ⟨i2 _⟩, ⟨i3⟩, ⟨i4⟩, ⟨fun h => by cases h⟩⟩

end Go.Proofs.YtkhhlnpiogfofaaDoor.LCPure
