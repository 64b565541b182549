/- The walk of the law FnExactWholeShadows. -/
import Derived.Test.YtmggonkdlhghjaaMarkSS
import Derived.Test.YtmggonkdlhghjaaPFnExactWholeShadowsx1
namespace Go.Proofs.Ytmggonkdlhghjaa.WShadows
open Go.RowKit Go.Proofs.Ytmggonkdlhghjaa.PFnExactWholeShadows Go.Proofs.YtmggonkdlhghjaaW.PrintWords
set_option linter.unusedVariables false
set_option linter.unusedSimpArgs false

set_option maxHeartbeats 1000000 in
set_option maxRecDepth 100000 in
theorem law_walk (k : Nat) (a m : Int) (o : Bool) (R R' : List (List Int)) (w : World) (hs : spec_WholeShadows.f k a = some (R, o)) (hi : impl_WholeShadows.f k a = some (R, o))
    (he : laws_eqIntSS.f k R R = some true) (hm : MarkSS.l0 k R 1 0 = some (m, R')) (hh : laws_heldIntSS.f k R' 1 = some m) (hm0 : 0 ≤ m) :
    Calls Try.prog 3 #[.int .i64 a] w fun en w' => en = .returned (.bool true) ∧ Below w.heap.size w w' := by
  have HS := Aside0.mk hs
  have HI := Aside0.mk hi
  have HE := Aside0.mk he
  have HM := Aside0.mk hm
  have HH := Aside0.mk hh
  clear hs hi he hm hh
  go_enter Try.func3, Try.ntmps3
  go_wp2_with fail
  refine (spec_WholeShadows.calls k a R o w HS.out).mono ?_
  rintro e w1 ⟨v1, rfl, hs1, hb1⟩
  obtain ⟨As, cs, rfl, hls, hcs⟩ := Kd.R_reads (Kd.S_R hs1)
  have S1 := Aside0.mk hs1
  have C1 := Aside0.mk hls
  have L1 := Aside0.mk hb1
  clear hs1 hls hcs hb1
  go_wp2_with fail
  refine (impl_WholeShadows.calls k a R o w1 HI.out).mono ?_
  rintro e w2 ⟨v2, rfl, hs2, hb2⟩
  obtain ⟨Ag, cg, rfl, hlg, hcg⟩ := Kd.R_reads (Kd.S_R hs2)
  have S2 := Aside0.mk (Kd.S_mono (Kd.S_bound hs2) (ok' := fun q => w1.heap.size ≤ q) (fun q hq => hq.2.1))
  have Z2 := Aside0.mk (Kd.S_mono (Kd.S_below (Kd.S_bound S1.out) hb2) (ok' := fun q => q < w1.heap.size) (fun q hq => hq.2.2.1))
  have C2 := Aside0.mk hlg
  have G2 := Aside0.mk hb2
  clear hs2 hlg hcg hb2 S1
  go_wp2_with fail
  refine (laws_eqIntSS.calls k Ag cg R As cs R true w2 ((Kd.R_reads' (Kd.S_R S2.out)).2.2) C2.out ((Kd.R_reads' (Kd.S_R Z2.out)).2.2) C1.out HE.out).mono ?_
  rintro e w3 ⟨rfl, hd⟩
  have hb3 := hd.below
  have S3 := Aside0.mk (Kd.S_below S2.out hb3)
  have Z3 := Aside0.mk (Kd.S_below Z2.out hb3)
  have G3 := Aside0.mk (below_step G2.out hb3)
  clear hd hb3 S2 Z2 G2
  go_wp2_with fail
  refine (MarkSS.walk k (fun q => w1.heap.size ≤ q) _ R 1 m R' w1 w3 G3.out S3.out HM.out).mono ?_
  rintro e w4 ⟨rfl, hs4, hb4, hk4⟩
  obtain ⟨A', c', hv, -, -⟩ := Kd.R_reads (Kd.S_R hs4)
  injection hv with e1 e2 e3
  have HL := Aside0.mk e2
  have S4 := Aside0.mk hs4
  have Z4 := Aside0.mk (Kd.S_kept Z3.out hk4 (fun q h1 h2 => absurd h1 (Nat.not_lt.mpr h2)))
  have G4 := Aside0.mk hb4
  clear e1 e2 e3 hs4 hb4 hk4 S3 Z3 G3
  have d1 : decide (m < 0) = false := decide_eq_false (by omega)
  go_wp2_with fail
  have held : ∀ W : World, Kd.S (Kd.slice 3 (Kd.int .i64)) 48 W w1.heap.size (fun q => w1.heap.size ≤ q) (.slice Ag R.length cg) R' → Calls Try.prog 14 #[.slice Ag R.length cg, .int .i64 1] W fun e w' => e = .returned (.int .i64 m) ∧ Drawn0 W w' := by
    intro W hW
    have h1 := (Kd.R_reads' (Kd.S_R hW)).2.2
    have h2 := laws_heldIntSS.calls k Ag cg R' 1 m W h1 (by rw [← HL.out]; exact C2.out) HH.out
    rw [← HL.out] at h2
    exact h2
  have HD := Aside0.mk held
  clear held
  refine (HD.out w4 S4.out).mono ?_
  rintro e w5 ⟨rfl, hd⟩
  have hb5 := hd.below
  have S5 := Aside0.mk (Kd.S_below S4.out hb5)
  have Z5 := Aside0.mk (Kd.S_below Z4.out hb5)
  have G5 := Aside0.mk (below_step G4.out hb5)
  clear hd hb5 S4 Z4 G4
  go_wp2_with fail
  refine (impl_WholeShadows.calls k a R o w5 HI.out).mono ?_
  rintro e w6 ⟨v6, rfl, hs6, hb6⟩
  obtain ⟨Ah, ch, rfl, hlh, hch⟩ := Kd.R_reads (Kd.S_R hs6)
  have S6 := Aside0.mk (Kd.S_below S5.out hb6)
  have Z6 := Aside0.mk (Kd.S_below Z5.out hb6)
  have T6 := Aside0.mk hs6
  have C6 := Aside0.mk hlh
  have G6 := Aside0.mk (below_step G5.out hb6)
  clear hs6 hlh hch hb6 S5 Z5 G5
  go_wp2_with fail
  refine (laws_eqIntSS.calls k Ah ch R As cs R true w6 ((Kd.R_reads' (Kd.S_R T6.out)).2.2) C6.out ((Kd.R_reads' (Kd.S_R Z6.out)).2.2) C1.out HE.out).mono ?_
  rintro e w7 ⟨rfl, hd⟩
  have hb7 := hd.below
  have S7 := Aside0.mk (Kd.S_below S6.out hb7)
  have G7 := Aside0.mk (below_step G6.out hb7)
  clear hd hb7 S6 Z6 T6 G6
  go_wp2_with fail
  refine (HD.out w7 S7.out).mono ?_
  rintro e w8 ⟨rfl, hd⟩
  have G8 := Aside0.mk (below_step L1.out (below_step G7.out hd.below))
  clear hd S7 G7
  go_wp2
  go_ret
  exact ⟨rfl, G8.out⟩
end Go.Proofs.Ytmggonkdlhghjaa.WShadows
