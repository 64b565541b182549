/- FnShadowsDarkOfAll: for every input that can be read as data the law function returns true, and each argument reads afterwards as it did; the library's variables that the row lists are tied to the program's text (the given tie). No condition of ours. -/
import Derived.Test.YtkhhlnpiogfofaaGreatDoorCards
import Derived.Test.YtkhhlnpiogfofaaGreatDoorTie
import Derived.Test.YtkhhlnpiogfofaaGreatDoorFrame
import Derived.Test.YtkhhlnpiogfofaaGreatDoorSDJoin
import Derived.ProofKit
import Derived.OpenShut
import Derived.ShutString
import Derived.ChangeOld
import Derived.Below
import Derived.SizedLaws
import Derived.Carry
import Derived.Lib.SmallJoins
import Derived.Deep.Slices
import Derived.ChangeSame
import Derived.SevenTiedAt
import Derived.LaidMore
import Derived.Lay
namespace Go.Proofs.YtkhhlnpiogfofaaGreatDoor.fnShadowsDarkOfAll
open Go.ChangeShapes Go.WideShapes Go.ChangeAt Go.RowKit Go.Joins
open Go.ChangeMaps (open_string shut_string)
set_option linter.unusedVariables false
set_option linter.unusedSimpArgs false
theorem laidOut : laidOutB Tryz.prog = true := by kernel_rfl
theorem cells24 : Tryz.prog.cellsOf 24 = 2 := by kernel_rfl
set_option maxRecDepth 100000 in
theorem lifted (os : Os) (started : os.Started) (H : Type) (enc : TypeId × Value → H) :
    ReturnsInHanded {} Tryz.checked os 3 .any (fun w args => (Rows.fnShadowsDarkOfAllSpec.pre enc Tryz.prog Tryz.f3 [] false w args ∧ laidMetH Tryz.prog Rows.fnShadowsDarkOfAllRow.laid w) ∧ sizedMet enc Tryz.prog Tryz.f3 (OpenSpec.ofChange Rows.fnShadowsDarkOfAllSpec) false w args) (Rows.fnShadowsDarkOfAllSpec.post enc Tryz.prog Tryz.f3 false true false false) := by
  refine Frame.handed (C := Tryz.checked) (X := fun w => laidMetH Tryz.prog Rows.fnShadowsDarkOfAllRow.laid w) (fun _ _ hh h => h.of_heap hh) Frame.own started (by kernel_rfl) Tryz.func3
    (ChangeSpec.witness_shaped (enc := enc) (C := Tryz.checked) (os := os) (X := fun w _ => laidMetH Tryz.prog Rows.fnShadowsDarkOfAllRow.laid w) false (World.laidAll Tryz.prog os Rows.fnShadowsDarkOfAllRow.laid) #[.int .i64 0, .slice none 0 0, .int .i64 0, .int .i64 0, .agg #[.int .i64 0, .int .i64 0], .agg #[.int .i64 0, .int .i64 0], .int .i64 0, .slice none 0 0, .string ⟨#[]⟩] 8 (World.laidAll_os _ _ _) (World.shaped_of_ZipB (by kernel_rfl) (by kernel_rfl)) (by kernel_rfl) (by kernel_rfl) (by kernel_rfl) (by rw [MakeChecks.laidMetH_plain _ _ _ (by kernel_rfl)]; exact laidMet_laidAll _ (by kernel_rfl) (by kernel_rfl))) ?_
  intro W base args ds gs before hval0 hW hsz0 hL0 hshape
  have hval : ∀ (j : Nat) t v, Tryz.f3.params[j]? = some t → args[j]? = some v → Value.okWide Tryz.prog W .any base t v := hval0
  have hsz : (DataW.weightsEach Tryz.prog (Tryz.f3.params.toList ++ Rows.fnShadowsDarkOfAllSpec.plain.varTypes Tryz.prog) (ds ++ gs)).all (· ≤ reachBytes) = true := hsz0
  have hL : laidMet Tryz.prog Rows.fnShadowsDarkOfAllRow.laid W := by
    have h := hL0
    rw [MakeChecks.laidMetH_plain _ _ _ (by kernel_rfl)] at h
    exact h
  have hW' := hW
  obtain ⟨p, q, hA0, hV, rfl, hfz, hnd⟩ := hW
  have hA : DataW.TrodAll enc Tryz.prog W 0 (fun _ => true) true Tryz.f3.params.toList args.toList ds p := hA0
  rw [Tryz.params3] at hA hval hsz
  obtain ⟨v0, vs0, d0, ds0, p0, q0, hargs, rfl, rfl, h0, r0⟩ := trodAll_cons hA
  obtain ⟨v1, vs1, d1, ds1, p1, q1, rfl, rfl, rfl, h1, r1⟩ := trodAll_cons r0
  obtain ⟨v2, vs2, d2, ds2, p2, q2, rfl, rfl, rfl, h2, r2⟩ := trodAll_cons r1
  obtain ⟨v3, vs3, d3, ds3, p3, q3, rfl, rfl, rfl, h3, r3⟩ := trodAll_cons r2
  obtain ⟨v4, vs4, d4, ds4, p4, q4, rfl, rfl, rfl, h4, r4⟩ := trodAll_cons r3
  obtain ⟨v5, vs5, d5, ds5, p5, q5, rfl, rfl, rfl, h5, r5⟩ := trodAll_cons r4
  obtain ⟨v6, vs6, d6, ds6, p6, q6, rfl, rfl, rfl, h6, r6⟩ := trodAll_cons r5
  obtain ⟨v7, vs7, d7, ds7, p7, q7, rfl, rfl, rfl, h7, r7⟩ := trodAll_cons r6
  obtain ⟨v8, vs8, d8, ds8, p8, q8, rfl, rfl, rfl, h8, r8⟩ := trodAll_cons r7
  obtain ⟨rfl, rfl, rfl⟩ := trodAll_nil r8
  obtain rfl : args = #[v0, v1, v2, v3, v4, v5, v6, v7, v8] := by cases args; simp_all
  obtain ⟨rfl, rfl⟩ := trodVars_none hV
  have hk0 := h0
  obtain ⟨a0, rfl, rfl, rfl, w0⟩ := open_int Tryz.underlying3 (hval 0 3 v0 rfl rfl) h0
  have hk1 := h1
  have lt1 : ∀ x ∈ p1, x.block < W.heap.size := by obtain ⟨m, hm⟩ := hk1; exact DataW.trod_lt m _ _ _ hm
  obtain ⟨A1, len1, cap1, rfl⟩ := okWide_slice Tryz.underlying22 (hval 1 22 v1 rfl rfl)
  obtain ⟨l1, hl1, hc1, hcap1, y1⟩ := SDJoin.open_pairs (j := 1) h1 hsz rfl rfl
  subst hl1
  have hk2 := h2
  obtain ⟨a2, rfl, rfl, rfl, w2⟩ := open_int Tryz.underlying3 (hval 2 3 v2 rfl rfl) h2
  have hk3 := h3
  obtain ⟨a3, rfl, rfl, rfl, w3⟩ := open_int Tryz.underlying3 (hval 3 3 v3 rfl rfl) h3
  have hk4 := h4
  obtain ⟨c4_0, c4_1, y4_0, y4_1, m4, rfl, rfl, rfl, hy4_0, hy4_1⟩ := open_agg2 Tryz.underlying24 (by kernel_rfl) cells24 (hval 4 24 v4 rfl rfl) h4
  obtain ⟨a4_0, e4_0, rfl, w4_0⟩ := DataW.trod_int Tryz.underlying3 hy4_0
  obtain ⟨a4_1, e4_1, rfl, w4_1⟩ := DataW.trod_int Tryz.underlying3 hy4_1
  simp at e4_0 e4_1
  subst e4_0 e4_1
  have hk5 := h5
  obtain ⟨c5_0, c5_1, y5_0, y5_1, m5, rfl, rfl, rfl, hy5_0, hy5_1⟩ := open_agg2 Tryz.underlying24 (by kernel_rfl) cells24 (hval 5 24 v5 rfl rfl) h5
  obtain ⟨a5_0, e5_0, rfl, w5_0⟩ := DataW.trod_int Tryz.underlying3 hy5_0
  obtain ⟨a5_1, e5_1, rfl, w5_1⟩ := DataW.trod_int Tryz.underlying3 hy5_1
  simp at e5_0 e5_1
  subst e5_0 e5_1
  have hk6 := h6
  obtain ⟨a6, rfl, rfl, rfl, w6⟩ := open_int Tryz.underlying3 (hval 6 3 v6 rfl rfl) h6
  have hk7 := h7
  have lt7 : ∀ x ∈ p7, x.block < W.heap.size := by obtain ⟨m, hm⟩ := hk7; exact DataW.trod_lt m _ _ _ hm
  obtain ⟨A7, len7, cap7, rfl⟩ := okWide_slice Tryz.underlying22 (hval 7 22 v7 rfl rfl)
  obtain ⟨l7, hl7, hc7, hcap7, y7⟩ := SDJoin.open_pairs (j := 7) h7 hsz rfl rfl
  subst hl7
  have hk8 := h8
  obtain ⟨a8, rfl, rfl, rfl, w8⟩ := open_string Tryz.underlying9 (hval 8 9 v8 rfl rfl) h8
  have hlim8 : a8.size ≤ 140737488355328 := by
    have h1 := sized_string hsz (j := 8) (t := 9) rfl rfl
    have h2 := reachBytes_lt
    have e1 : a8.size = a8.data.size := rfl
    have e2 : a8.data.toList.length = a8.data.size := Array.length_toList
    have e3 : (2 : Nat) ^ 47 = 140737488355328 := by decide
    omega
  clear hA0 hval0 hsz0
  refine (SDJoin.join a0 A1 cap1 l1 a2 a3 a4_0 a4_1 a5_0 a5_1 a6 A7 cap7 l7 a8 hlim8 W hc1 hcap1 y1 hc7 hcap7 y7 (⟨Frame.tab_of_laid hL, Frame.err_of_laid Frame.gSyntax Frame.tSyntax hL.tail.tail.tail.tail.tail, Frame.err_of_laid Frame.gRange Frame.tRange hL.tail.tail.tail.tail, Frame.max_of_shape hshape⟩)).mono fun e W' ⟨he, bel⟩ => ?_
  subst he
  exact ⟨_, rfl, _, _, _, [], _, [], hW', trodAll_mk1 (shut_bool Tryz.underlying4 _), (trodAll_cons_mk (Below.trod laidOut (by kernel_rfl) (of_decide_eq_true (by kernel_rfl)) hk0 bel (fun x hx => by simp at hx)) (trodAll_cons_mk (Below.trod laidOut (by kernel_rfl) (of_decide_eq_true (by kernel_rfl)) hk1 bel lt1) (trodAll_cons_mk (Below.trod laidOut (by kernel_rfl) (of_decide_eq_true (by kernel_rfl)) hk2 bel (fun x hx => by simp at hx)) (trodAll_cons_mk (Below.trod laidOut (by kernel_rfl) (of_decide_eq_true (by kernel_rfl)) hk3 bel (fun x hx => by simp at hx)) (trodAll_cons_mk (Below.trod laidOut (by kernel_rfl) (of_decide_eq_true (by kernel_rfl)) hk4 bel (fun x hx => by simp at hx)) (trodAll_cons_mk (Below.trod laidOut (by kernel_rfl) (of_decide_eq_true (by kernel_rfl)) hk5 bel (fun x hx => by simp at hx)) (trodAll_cons_mk (Below.trod laidOut (by kernel_rfl) (of_decide_eq_true (by kernel_rfl)) hk6 bel (fun x hx => by simp at hx)) (trodAll_cons_mk (Below.trod laidOut (by kernel_rfl) (of_decide_eq_true (by kernel_rfl)) hk7 bel lt7) (trodAll_cons_mk (Below.trod laidOut (by kernel_rfl) (of_decide_eq_true (by kernel_rfl)) hk8 bel (fun x hx => by simp at hx)) trodAll_mk0))))))))), rfl, bel.frame _, fun h => by cases h⟩
theorem over : Rows.fnShadowsDarkOfAllRow.holds Tryz.pinned (OpenSpec.ofChange Rows.fnShadowsDarkOfAllSpec) :=
  OpenClaim.holds_of_wide 3 Tryz.f3 rfl rfl rfl rfl rfl rfl rfl ⟨rfl, rfl, rfl, rfl, rfl⟩ rfl rfl rfl rfl rfl (by kernel_rfl) Tryz.func3 (by kernel_rfl)
    (of_decide_eq_true (by kernel_rfl)) (by unfold Func.isWrapper; first | (rw [if_pos (by decide +kernel)]; kernel_rfl) | (rw [if_neg (by decide +kernel)]; exact ⟨rfl, rfl⟩))
    (fun os started H enc _ => lifted os started H enc)
theorem proved : Rows.FnShadowsDarkOfAllCardSaid :=
  Claim7.holds_tied_plain_at .later [] [.data, .data, .data, .data, .sentinel, .sentinel, .pinned] true (true, "dc07c11d16affd671430109a0411896c02005d7402e26bb6fe283ab60f66e7a3") true
    over (fun _ h => by cases h) (by kernel_rfl) (fun _ h => by cases h) fnShadowsDarkOfAll_row_tie rfl ⟨rfl, rfl⟩ (by kernel_rfl) rfl
    (fun f fn hf hfn => by
      obtain rfl : f = 3 := Option.some.inj ((show Tryz.prog.funcNamed Rows.fnShadowsDarkOfAllRow.func = some 3 by kernel_rfl).symm.trans hf) |>.symm
      obtain rfl : fn = Tryz.f3 := (Option.some.inj (Tryz.func3.symm.trans hfn)).symm
      exact ⟨by kernel_rfl, fun j t ht => by
        rw [Tryz.params3] at ht
        have hm : t ∈ [3, 22, 3, 3, 24, 24, 3, 22, 9] := by simpa using Array.mem_of_getElem? ht
        have hall : ([3, 22, 3, 3, 24, 24, 3, 22, 9].all fun u => !Tryz.prog.wantsStandIn u) = true := by kernel_rfl
        exact (show Tryz.prog.wantsStandIn t = false by simpa using List.all_eq_true.1 hall t hm)⟩)
    (by kernel_rfl)
end Go.Proofs.YtkhhlnpiogfofaaGreatDoor.fnShadowsDarkOfAll
namespace Go.Proofs.YtkhhlnpiogfofaaGreatDoor
/-- The card, under a short name, for the claim. -/
theorem fnShadowsDarkOfAll_holds : Rows.FnShadowsDarkOfAllCardSaid := fnShadowsDarkOfAll.proved
end Go.Proofs.YtkhhlnpiogfofaaGreatDoor
