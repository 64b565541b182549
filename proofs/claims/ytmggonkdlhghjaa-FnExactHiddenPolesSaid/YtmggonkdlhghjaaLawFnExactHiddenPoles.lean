/- FnExactHiddenPoles: for every input that can be read as data the law function returns true, and each argument reads afterwards as it did. No condition of ours. The row's frame: structs by value are opened field by field; what the walk needs is the printed contract of the law function, and the plain law. -/
import Derived.Test.YtmggonkdlhghjaaRows
import Derived.Test.YtmggonkdlhghjaaPFnExactHiddenPolesx6
import Derived.Test.YtmggonkdlhghjaaPureFnExactHiddenPoles
import Derived.WalkKit
import Derived.ProofKit
import Derived.OpenShut
import Derived.ShutString
import Derived.ChangeOld
import Derived.Below
import Derived.SizedLaws
import Derived.Carry
import Derived.Lib.SmallJoins
import Derived.Deep.Slices
import Derived.ChangeSame
namespace Go.Proofs.Ytmggonkdlhghjaa.fnExactHiddenPoles
open Go.ChangeShapes Go.WideShapes Go.ChangeAt Go.RowKit Go.Joins
open Go.ChangeMaps (open_string shut_string)
set_option linter.unusedVariables false
set_option linter.unusedSimpArgs false
theorem own : ownKnob Try.prog.godebug = none := by kernel_rfl
theorem laidOut : laidOutB Try.prog = true := by kernel_rfl
theorem cells63 : Try.prog.cellsOf 63 = 2 := by kernel_rfl
theorem cells3 : Try.prog.cellsOf 3 = 1 := by kernel_rfl
theorem bytes63 : Try.prog.bytesOf 63 = 16 := by kernel_rfl
theorem list_of {α : Type} {P : Nat → α → Prop} : ∀ n, (∀ i, i < n → ∃ x, P i x) → ∃ l : List α, l.length = n ∧ ∀ i x, l[i]? = some x → P i x
  | 0, _ => ⟨[], rfl, fun i x h => by simp at h⟩
  | n + 1, h => by
    obtain ⟨l, hl, hP⟩ := list_of n (fun i hi => h i (by omega))
    obtain ⟨x, hx⟩ := h n (by omega)
    refine ⟨l ++ [x], by simp [hl], fun i y hi => ?_⟩
    rcases Nat.lt_or_ge i n with hlt | hge
    · rw [List.getElem?_append_left (by omega)] at hi
      exact hP i y hi
    · rw [List.getElem?_append_right (by omega)] at hi
      obtain rfl : i = n := by
        rcases Nat.eq_or_lt_of_le hge with h | h
        · exact h.symm
        · rw [List.getElem?_eq_none (by simp; omega)] at hi
          cases hi
      rw [hl, Nat.sub_self] at hi
      simp at hi
      exact hi ▸ hx
theorem pair_of {α : Type} {l : List α} (h : l.length = 2) : ∃ a b, l = [a, b] := by
  match l, h with
  | [a, b], _ => exact ⟨a, b, rfl⟩
open PFnExactHiddenPoles in
/-- A slice of pairs of numbers that came in, as a list. -/
theorem open_pairs {H : Type} {enc : TypeId × Value → H} {W : World} {base : Nat} {spare : Nat → Bool} {held : Bool} {a : Option Addr} {len cap : Nat} {d : DataW H} {ps : List MemPlace} {ts : List TypeId} {ds : List (DataW H)} {j : Nat}
    (h : DataW.Trod enc Try.prog W base spare held 28 (.slice a len cap) d ps) (hsz : (DataW.weightsEach Try.prog ts ds).all (· ≤ reachBytes) = true) (ht : ts[j]? = some 28) (hd : ds[j]? = some d) :
    ∃ l : List S63, l.length = len ∧ Go.Proofs.YtmggonkdlhghjaaW.PrintWords.Kd.C k63 W a l.length l ∧ l.length ≤ cap ∧ l.length * 16 ≤ 140737488351232 := by
  obtain ⟨fuel, hf⟩ := h
  rcases Go.Deep.open_slice Try.underlying28 hf with ⟨hcs, hx⟩ | ⟨a', len', cap', m, n, D, Pl, hcs, _, hlc, hmx, hm, hx, hcell⟩
  · simp [Value.cells] at hcs
    obtain ⟨rfl, rfl, rfl⟩ := hcs
    exact ⟨[], rfl, Go.Proofs.YtmggonkdlhghjaaW.PrintWords.Kd.C_nil _ _, by simp, by simp⟩
  · simp [Value.cells] at hcs
    obtain ⟨rfl, rfl, rfl⟩ := hcs
    have hlm : len ≤ m := by rw [hm]; split <;> omega
    rw [cells63] at hcell
    have hP : ∀ i, i < len → ∃ x : S63, ∀ (j : Nat) (u : Value), [Value.int .i64 x.f0, Value.int .i64 x.f1][j]? = some u → W.cell? (a'.add (i * 2 + j)) = some u := by
      intro i hi
      obtain ⟨cs', hcs', htr⟩ := hcell i (by omega)
      obtain ⟨y0, y1, n', hx', hlen, h0, h1⟩ := trod_struct2 Try.underlying63 htr
      rw [cells63] at hlen
      obtain ⟨_, hcl, hcc⟩ := World.cells?_some hcs'
      obtain ⟨x0, e0, _, w0⟩ := DataW.trod_int Try.underlying3 h0
      obtain ⟨x1, e1, _, w1⟩ := DataW.trod_int Try.underlying3 h1
      simp only [cells3] at e0 e1
      obtain ⟨c0, c1, rfl⟩ := pair_of hlen
      simp at e0 e1
      subst e0 e1
      refine ⟨⟨x0, x1⟩, fun j u hu => ?_⟩
      have hj : j < 2 := by have := (List.getElem?_eq_some_iff.1 hu).1; simpa using this
      rw [← Go.Deep.add_add, hcc j hj]
      exact hu
    obtain ⟨l, hl, hPl⟩ := list_of len hP
    subst hl
    refine ⟨l, rfl, ⟨rfl, by unfold maxLen at hmx; omega, fun hpos => ⟨a', rfl, fun j p hj => ⟨[.int .i64 p.f0, .int .i64 p.f1], rfl, k63_mk W p, fun i u hu => hPl j p hj i u hu⟩⟩⟩, hlc, ?_⟩
    simp only [Prod.mk.injEq] at hx
    rw [hx.1] at hd
    have z := sized_slice hsz ht hd Try.underlying28
    rw [bytes63, List.length_map, List.length_range, List.length_map, List.length_range] at z
    have z2 : (l.length + (m - l.length)) * 16 ≤ 140737488351232 := z
    omega
set_option maxRecDepth 100000 in
theorem lifted (os : Os) (started : os.Started) (H : Type) (enc : TypeId × Value → H) :
    ReturnsInHanded {} Try.checked os 9 .any (Rows.fnExactHiddenPolesSpec.pre6 enc Try.prog Try.f9 Rows.fnExactHiddenPolesRow.domain false) (Rows.fnExactHiddenPolesSpec.post enc Try.prog Try.f9 false true false false) := by
  refine returnsInHanded_of_change_sized (C := Try.checked) own started (by kernel_rfl) Try.func9
    (ChangeSpec.witness6 (enc := enc) (C := Try.checked) false ⟨#[], #[.int .i64 0, .slice none 0 0], []⟩ 8 (by kernel_rfl) (by kernel_rfl) (by kernel_rfl) (by kernel_rfl)) ?_
  intro W base args ds gs before hval0 hW hcnd0 hsz0 _
  have hval : ∀ (j : Nat) t v, Try.f9.params[j]? = some t → args[j]? = some v → Value.okWide Try.prog W .any base t v := hval0
  have hsz : (DataW.weightsEach Try.prog (Try.f9.params.toList ++ Rows.fnExactHiddenPolesSpec.plain.varTypes Try.prog) (ds ++ gs)).all (· ≤ reachBytes) = true := hsz0
  have hW' := hW
  obtain ⟨p, q, hA0, hV, rfl, hfz, hnd⟩ := hW
  have hA : DataW.TrodAll enc Try.prog W 0 (fun _ => true) true Try.f9.params.toList args.toList ds p := hA0
  rw [Try.params9] at hA hval hsz
  obtain ⟨v0, vs0, d0, ds0, p0, q0, hargs, rfl, rfl, h0, r0⟩ := trodAll_cons hA
  obtain ⟨v1, vs1, d1, ds1, p1, q1, rfl, rfl, rfl, h1, r1⟩ := trodAll_cons r0
  obtain ⟨rfl, rfl, rfl⟩ := trodAll_nil r1
  obtain rfl : args = #[v0, v1] := by cases args; simp_all
  obtain ⟨rfl, rfl⟩ := trodVars_none hV
  have hk0 := h0
  obtain ⟨a0, rfl, rfl, rfl, w0⟩ := open_int Try.underlying3 (hval 0 3 v0 rfl rfl) h0
  have hk1 := h1
  have lt1 : ∀ x ∈ p1, x.block < W.heap.size := by obtain ⟨m, hm⟩ := hk1; exact DataW.trod_lt m _ _ _ hm
  obtain ⟨A1, len1, cap1, rfl⟩ := okWide_slice Try.underlying28 (hval 1 28 v1 rfl rfl)
  obtain ⟨l1, hl1, hc1, hcap1, y1⟩ := open_pairs (j := 1) h1 hsz rfl rfl
  subst hl1
  clear hA0 hval0 hsz0
  obtain ⟨k, hk⟩ := Pure.FnExactHiddenPoles a0 l1 w0 y1
  refine (PFnExactHiddenPoles.laws_FnExactHiddenPoles.calls k a0 A1 cap1 l1 true W hc1 hcap1 hk).mono fun e W' ⟨he, bel0⟩ => ?_
  subst he
  have bel : Below W.heap.size W W' := bel0
  exact ⟨_, rfl, _, _, _, [], _, [], hW', trodAll_mk1 (shut_bool Try.underlying4 _), (trodAll_cons_mk (Below.trod laidOut (by kernel_rfl) (of_decide_eq_true (by kernel_rfl)) hk0 bel (fun x hx => by simp at hx)) (trodAll_cons_mk (Below.trod laidOut (by kernel_rfl) (of_decide_eq_true (by kernel_rfl)) hk1 bel lt1) trodAll_mk0)), rfl, bel.frame _, fun h => by cases h⟩
theorem over : Rows.fnExactHiddenPolesRow.holds Try.pinned (OpenSpec.ofChange Rows.fnExactHiddenPolesSpec) :=
  OpenClaim.holds_of_wide 9 Try.f9 rfl rfl rfl rfl rfl rfl rfl ⟨rfl, rfl, rfl, rfl, rfl⟩ rfl rfl rfl rfl rfl (by kernel_rfl) Try.func9 (by kernel_rfl)
    (of_decide_eq_true (by kernel_rfl)) (by unfold Func.isWrapper; first | (rw [if_pos (by decide +kernel)]; kernel_rfl) | (rw [if_neg (by decide +kernel)]; exact ⟨rfl, rfl⟩))
    (fun os started H enc _ => lifted os started H enc)
theorem proved : Rows.FnExactHiddenPolesSaid := over
end Go.Proofs.Ytmggonkdlhghjaa.fnExactHiddenPoles
namespace Go.Proofs.Ytmggonkdlhghjaa
/-- The row, under a short name, for the claim. -/
theorem fnExactHiddenPoles_holds : Rows.FnExactHiddenPolesSaid := fnExactHiddenPoles.proved
end Go.Proofs.Ytmggonkdlhghjaa
