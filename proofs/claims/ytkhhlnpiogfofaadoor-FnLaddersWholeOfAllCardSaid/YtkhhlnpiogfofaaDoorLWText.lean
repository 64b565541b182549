/- Plain laws on the texts that FnLaddersWholeOfAll reads and tells. No condition beyond those that each theorem names. -/
import Derived.Test.YtkhhlnpiogfofaaDoorLWPure
import Derived.Test.YtkhhlnpiogfofaaDoorLWCore
import Derived.Test.YtkhhlnpiogfofaaDoorLW6
import Derived.Test.YtkhhlnpiogfofaaDoorLW9
import Derived.Test.YtkhhlnpiogfofaaDoorLW9
namespace Go.Proofs.YtkhhlnpiogfofaaDoor.LWText
open Go.RowKit Go.Proofs.YtkhhlnpiogfofaaDoor.PFnLaddersWholeOfAll Go.Proofs.YtkhhlnpiogfofaaDoorW.PrintWords Go.Proofs.YtkhhlnpiogfofaaDoorW.PrintLast Go.Proofs.YtkhhlnpiogfofaaDoorW.PrintMore Go.Proofs.YtkhhlnpiogfofaaDoor.Given Go.Proofs.YtkhhlnpiogfofaaDoor.LWPure
open Go.Proofs.YtkhhlnpiogfofaaDoor.LWCore (toList_eq size_len bt_get extract_list split_ev read_ev)
set_option linter.unusedVariables false
set_option linter.unusedSimpArgs false

theorem size_one (c : UInt8) : (⟨#[c]⟩ : ByteArray).size = 1 := rfl
theorem itoa_dec (n : Nat) : (⟨(Lib.itoa (n : Int)).toArray⟩ : ByteArray) = LWDec.dec n := by
  unfold Lib.itoa LWDec.dec
  rw [if_neg (by omega), Int.toNat_natCast]
theorem text_ev (n : Nat) (h : n ≤ 1000) : impl_text.f (n : Int) = some (LWDec.dec n) := by
  unfold impl_text.f
  rw [if_pos (by omega), itoa_dec]
theorem ltextI (x y z : Nat) (h : G x y z) : impl_LaddersText.f x y z = some (LWDec.ltext x y z, true) := by
  have h0 := h
  obtain ⟨h1, h2, h3⟩ := h
  have sx := LWDec.dec_le x (by omega)
  have sy := LWDec.dec_le y (by omega)
  have sz := LWDec.dec_le z (by omega)
  simp only [impl_LaddersText.f, are_i, Option.bind_some]
  rw [if_pos (decide_eq_true h0), text_ev x (by omega)]
  simp only [Option.bind_some]
  rw [if_pos (by omega), text_ev y (by omega)]
  simp only [Option.bind_some]
  rw [if_pos (by simp only [ByteArray.size_append, size_one]; omega), if_pos (by simp only [ByteArray.size_append, size_one]; omega), text_ev z (by omega)]
  simp only [Option.bind_some]
  rw [if_pos (by simp only [ByteArray.size_append, size_one]; omega)]
  rfl
theorem l1Num_dec (n : Nat) : ∀ k : Nat, n < 10000 → n < k → spec_l1Num.f k (n : Int) = some (LWDec.dec n) := by
  induction n using Nat.strongRecOn with
  | _ n ih =>
    intro k hn hk
    obtain ⟨k, rfl⟩ : ∃ m, k = m + 1 := ⟨k - 1, by omega⟩
    simp only [spec_l1Num.f]
    by_cases h : n < 10
    · rw [if_pos (by omega), LWDec.one_num n h, LWDec.dec_small h]
    · have e1 : wrap64 (Int.tdiv (n : Int) 10) = ((n / 10 : Nat) : Int) := by
        rw [Int.tdiv_eq_ediv_of_nonneg (by omega), wrap_id (by omega) (by omega)]
        omega
      have e2 : Int.tmod (n : Int) 10 = ((n % 10 : Nat) : Int) := by
        rw [Int.tmod_eq_emod_of_nonneg (by omega)]
        omega
      rw [if_neg (by omega), e1, ih (n / 10) (by omega) k (by omega) (by omega), e2]
      simp only [Option.bind_some]
      rw [LWDec.one_num (n % 10) (by omega)]
      have hs := LWDec.dec_le (n / 10) (by omega)
      have hs1 : (⟨#[UInt8.ofNat (48 + n % 10)]⟩ : ByteArray).size = 1 := rfl
      rw [if_pos (by omega), LWDec.dec_big h]
theorem clText_dec (a b c k : Nat) (ha : a < 10000) (hb : b < 10000) (hc : c < 10000) (hk : 10000 ≤ k) : spec_clText.f k a b c = some (LWDec.ltext a b c) := by
  have s1 := LWDec.dec_le a ha
  have s2 := LWDec.dec_le b hb
  have s3 := LWDec.dec_le c hc
  simp only [spec_clText.f]
  rw [l1Num_dec a k ha (by omega)]
  simp only [Option.bind_some]
  rw [if_pos (by omega), l1Num_dec b k hb (by omega)]
  simp only [Option.bind_some]
  rw [if_pos (by simp only [ByteArray.size_append, size_one]; omega), if_pos (by simp only [ByteArray.size_append, size_one]; omega), l1Num_dec c k hc (by omega)]
  simp only [Option.bind_some]
  rw [if_pos (by simp only [ByteArray.size_append, size_one]; omega)]
  rfl
/-- The text of ladders, as a list. -/
def T (x y z : Nat) : List UInt8 := Lib.decDigits x ++ 58 :: (Lib.decDigits y ++ 47 :: Lib.decDigits z)
theorem ltext_T (x y z : Nat) : (LWDec.ltext x y z).data.toList = T x y z := by
  unfold LWDec.ltext LWDec.dec T
  simp
theorem not_dec (c : UInt8) (h : ¬ Dig.isD c) (n : Nat) : c ∉ Lib.decDigits n := fun hc => h (Dig.dec_digits n c hc)
theorem n58 : ¬ Dig.isD 58 := fun h => absurd h.2 (by decide)
theorem n47 : ¬ Dig.isD 47 := fun h => absurd h.1 (by decide)
def good (x y z : Nat) : Prop := (1 ≤ x ∧ x ≤ 1000) ∧ (1 ≤ y ∧ y ≤ 1000) ∧ (1 ≤ z ∧ z ≤ 1000)
theorem dec_len (n : Nat) (h : n ≤ 1000) : (Lib.decDigits n).length ≤ 4 := by
  rw [Lib.decDigits_length]
  exact LWDec.nDigits_le n 3 (by have h4 : (10 : Nat) ^ (3 + 1) = 10000 := (by decide); omega)
theorem chop_T (x y z : Nat) : Dig.chop 58 [] (T x y z) = [Lib.decDigits x, Lib.decDigits y ++ 47 :: Lib.decDigits z] := by
  unfold T
  rw [Dig.chop_app 58 _ _ [] (not_dec 58 n58 x), Dig.chop_no 58 _ [] (fun h => by
    rcases List.mem_append.1 h with h1 | h1
    · exact not_dec 58 n58 y h1
    · rcases List.mem_cons.1 h1 with h2 | h2
      · exact absurd h2 (by decide)
      · exact not_dec 58 n58 z h2)]
  simp
theorem chop_T2 (y z : Nat) : Dig.chop 47 [] (Lib.decDigits y ++ 47 :: Lib.decDigits z) = [Lib.decDigits y, Lib.decDigits z] := by
  rw [Dig.chop_app 47 _ _ [] (not_dec 47 n47 y), Dig.chop_no 47 _ [] (not_dec 47 n47 z)]
  simp
def Tells (s : ByteArray) (a b c : Int) (o : Bool) : Prop := (∀ x y z : Nat, good x y z → s.data.toList = T x y z → o = true ∧ a = x ∧ b = y ∧ c = z) ∧ (o = true → ∃ x y z : Nat, good x y z ∧ s.data.toList = T x y z ∧ a = x ∧ b = y ∧ c = z)
theorem two_of {R : List ByteArray} (h : R.length = 2) : ∃ p q, R = [p, q] := by
  match R, h with
  | [p, q], _ => exact ⟨p, q, rfl⟩
/-- What spec.clParse tells. -/
theorem clParse_ev (s : ByteArray) (hs : s.size ≤ 1048576) : ∃ (a b c : Int) (o : Bool), (∀ k, 2000000 ≤ k → spec_clParse.f k s = some (a, b, c, o)) ∧ Tells s a b c o := by
  obtain ⟨R, hR, hRl, hRf⟩ := split_ev s 58 hs
  have no14 : ∀ x y z : Nat, good x y z → s.data.toList = T x y z → s.size ≤ 14 := fun x y z hg e => by
    have h1 := size_len s
    rw [e] at h1
    unfold T at h1
    simp only [List.length_append, List.length_cons] at h1
    have := dec_len x hg.1.2
    have := dec_len y hg.2.1.2
    have := dec_len z hg.2.2.2
    omega
  by_cases h14 : s.size > 14
  · refine ⟨0, 0, 0, false, fun k hk => ?_, ⟨fun x y z hg e => (by have := no14 x y z hg e; omega), fun h => by cases h⟩⟩
    obtain ⟨k, rfl⟩ : ∃ m, k = m + 1 := ⟨k - 1, by omega⟩
    have h58 : spec_l1Split.f (k + 1) s 58 = some R := hRf (k + 1) (by omega)
    simp only [spec_clParse.f]
    rw [h58]
    simp only [Option.bind_some]
    rw [if_pos (by omega)]
    simp [spec_clParse.j0]
  · by_cases h2 : R.length = 2
    · obtain ⟨p, q, rfl⟩ := two_of h2
      simp only [List.map_cons, List.map_nil] at hR
      have hqs : q.size ≤ 1048576 := by
        obtain ⟨h, t, e1, e2⟩ := Dig.chop_acc 58 s.data.toList []
        have hl : q.data.toList.length ≤ s.data.toList.length := by
          rcases Dig.parts 58 s.data.toList with hno | ⟨u, r, hu, e⟩
          · rw [Dig.chop_no 58 _ [] hno] at hR; simp at hR
          · rw [e, Dig.chop_app 58 u r [] hu] at hR
            injection hR with _ h3
            rcases Dig.parts 58 r with hno | ⟨u2, r2, hu2, e3⟩
            · rw [Dig.chop_no 58 _ [] hno] at h3
              injection h3 with h4 _
              rw [h4, e]
              simp only [List.nil_append, List.length_append, List.length_cons]
              omega
            · rw [e3, Dig.chop_app 58 u2 r2 [] hu2] at h3
              obtain ⟨h5, t5, e5, _⟩ := Dig.chop_acc 58 r2 []
              rw [e5] at h3
              injection h3 with _ h6
              cases h6
        rw [size_len]
        rw [← size_len s] at hl
        omega
      obtain ⟨R2, hR2, _, hR2f⟩ := split_ev q 47 hqs
      by_cases h3 : R2.length = 2
      · obtain ⟨u, v, rfl⟩ := two_of h3
        simp only [List.map_cons, List.map_nil] at hR2
        obtain ⟨a, ha, ha0, ha1, ha2, ha3⟩ := read_ev p
        obtain ⟨b, hb, hb0, hb1, hb2, hb3⟩ := read_ev u
        obtain ⟨c, hc, hc0, hc1, hc2, hc3⟩ := read_ev v
        have fwd : ∀ x y z : Nat, good x y z → s.data.toList = T x y z → a = x ∧ b = y ∧ c = z := fun x y z hg e => by
          rw [e, chop_T] at hR
          injection hR with e1 h5
          injection h5 with e2 _
          rw [e2, chop_T2] at hR2
          injection hR2 with e3 h6
          injection h6 with e4 _
          obtain ⟨g1, g2, g3⟩ := hg
          exact ⟨ha2 x (by omega) e1, hb2 y (by omega) e3, hc2 z (by omega) e4⟩
        have comp : ∀ k, 2000000 ≤ k → spec_clParse.f k s = (spec_clGood.f a b c).bind fun t => if t = true then ((spec_clText.f (k - 1) a b c).bind fun tx => some (a, b, c, (tx.toList == s.toList))) else some (a, b, c, false) := fun k hk => by
          obtain ⟨k, rfl⟩ : ∃ m, k = m + 1 := ⟨k - 1, by omega⟩
          have h58 : spec_l1Split.f (k + 1) s 58 = some [p, q] := hRf (k + 1) (by omega)
          have h47 : spec_l1Split.f k q 47 = some [u, v] := hR2f k (by omega)
          simp only [spec_clParse.f]
          rw [h58]
          simp only [Option.bind_some]
          rw [if_neg (by omega)]
          simp only [spec_clParse.j0]
          have e0 : rdOf ByteArray.empty [p, q] 0 = p := rfl
          have e1 : rdOf ByteArray.empty [p, q] 1 = q := rfl
          have e2 : rdOf ByteArray.empty [u, v] 0 = u := rfl
          have e3 : rdOf ByteArray.empty [u, v] 1 = v := rfl
          rw [if_neg (by simp), if_pos (by simp), e1, h47]
          simp only [Option.bind_some]
          rw [if_pos (by simp), if_pos (by simp), e0, ha k (by omega)]
          simp only [Option.bind_some]
          rw [if_pos (by simp), e2, hb k (by omega)]
          simp only [Option.bind_some]
          rw [if_pos (by simp), e3, hc k (by omega)]
          rfl
        by_cases hg : (1 ≤ a ∧ a ≤ 1000) ∧ (1 ≤ b ∧ b ≤ 1000) ∧ (1 ≤ c ∧ c ≤ 1000)
        · obtain ⟨x, rfl⟩ : ∃ x : Nat, a = x := ⟨a.toNat, by omega⟩
          obtain ⟨y, rfl⟩ : ∃ x : Nat, b = x := ⟨b.toNat, by omega⟩
          obtain ⟨z, rfl⟩ : ∃ x : Nat, c = x := ⟨c.toNat, by omega⟩
          refine ⟨x, y, z, (LWDec.ltext x y z).toList == s.toList, fun k hk => ?_, ⟨fun x' y' z' hg' e => ?_, fun h => ?_⟩⟩
          · rw [comp k hk, lad_spec, decide_eq_true hg]
            simp only [Option.bind_some]
            rw [if_pos trivial, clText_dec x y z (k - 1) (by omega) (by omega) (by omega) (by omega)]
            rfl
          · obtain ⟨e1, e2, e3⟩ := fwd x' y' z' hg' e
            obtain rfl : x' = x := by omega
            obtain rfl : y' = y := by omega
            obtain rfl : z' = z := by omega
            refine ⟨?_, rfl, rfl, rfl⟩
            rw [toList_eq, toList_eq, ltext_T, e]
            exact beq_self_eq_true _
          · refine ⟨x, y, z, ⟨by omega, by omega, by omega⟩, ?_, rfl, rfl, rfl⟩
            have := beq_iff_eq.1 h
            rw [toList_eq, toList_eq, ltext_T] at this
            exact this.symm
        · refine ⟨a, b, c, false, fun k hk => ?_, ⟨fun x y z hg' e => absurd (by obtain ⟨e1, e2, e3⟩ := fwd x y z hg' e; obtain ⟨g1, g2, g3⟩ := hg'; omega) hg, fun h => by cases h⟩⟩
          rw [comp k hk, lad_spec, decide_eq_false hg]
          rfl
      · refine ⟨0, 0, 0, false, fun k hk => ?_, ⟨fun x y z hg e => ?_, fun h => by cases h⟩⟩
        · obtain ⟨k, rfl⟩ : ∃ m, k = m + 1 := ⟨k - 1, by omega⟩
          have h58 : spec_l1Split.f (k + 1) s 58 = some [p, q] := hRf (k + 1) (by omega)
          have h47 : spec_l1Split.f k q 47 = some R2 := hR2f k (by omega)
          have e1 : rdOf ByteArray.empty [p, q] 1 = q := rfl
          simp only [spec_clParse.f]
          rw [h58]
          simp only [Option.bind_some]
          rw [if_neg (by omega)]
          simp only [spec_clParse.j0]
          rw [if_neg (by simp), if_pos (by simp), e1, h47]
          simp only [Option.bind_some]
          rw [if_neg (by omega)]
        · exfalso
          rw [e, chop_T] at hR
          injection hR with _ h5
          injection h5 with e2 _
          rw [e2, chop_T2] at hR2
          have := congrArg List.length hR2
          simp at this
          exact h3 this
    · refine ⟨0, 0, 0, false, fun k hk => ?_, ⟨fun x y z hg e => ?_, fun h => by cases h⟩⟩
      · obtain ⟨k, rfl⟩ : ∃ m, k = m + 1 := ⟨k - 1, by omega⟩
        have h58 : spec_l1Split.f (k + 1) s 58 = some R := hRf (k + 1) (by omega)
        simp only [spec_clParse.f]
        rw [h58]
        simp only [Option.bind_some]
        rw [if_neg (by omega)]
        simp only [spec_clParse.j0]
        rw [if_pos (by simp; omega)]
      · exfalso
        rw [e, chop_T] at hR
        have := congrArg List.length hR
        simp at this
        exact h2 this
/-- What impl.ParseLadders tells, out of the cuts and the numbers. -/
def bs (l : List UInt8) : ByteArray := ⟨l.toArray⟩
theorem bs_list (l : List UInt8) : (bs l).data.toList = l := by unfold bs; simp
theorem num_dec (n : Nat) (h : n < 1000000) (s : ByteArray) (e : s.data.toList = Lib.decDigits n) : Num.num s = ((n : Int), true) := by
  unfold Num.num
  rw [e, Dig.atoi_dec n (by omega)]
  simp only []
  rw [Dig.itoa_dec, toList_eq, toList_eq, e]
  have : (⟨(Lib.decDigits n).toArray⟩ : ByteArray).data.toList = Lib.decDigits n := by simp
  rw [this, beq_self_eq_true]
theorem num_true (s : ByteArray) (h : (Num.num s).2 = true) : s.data.toList = Lib.itoa (Num.num s).1 := by
  unfold Num.num at h ⊢
  rcases ha : Lib.atoiAll s.data.toList with v | _ | _
  · rw [ha] at h
    simp only [] at h ⊢
    have := beq_iff_eq.1 h
    rw [toList_eq, toList_eq] at this
    rw [← this]
  · rw [ha] at h; cases h
  · rw [ha] at h; cases h
theorem num_nil (s : ByteArray) (h : s.data.toList = []) : (Num.num s).2 = false := by
  unfold Num.num
  rw [h]
  rfl
theorem itoa_nat (v : Int) (h : 0 ≤ v) : Lib.itoa v = Lib.decDigits v.toNat := by
  obtain ⟨n, rfl⟩ : ∃ n : Nat, v = n := ⟨v.toNat, by omega⟩
  rw [Dig.itoa_dec, Int.toNat_natCast]
/-- Where the three numbers are ladders' the text is theirs. -/
theorem impl_text (s : ByteArray) (wide rest left right : ByteArray) (f1 f2 : Bool) (h1 : Lib.cut s.data.toList [58] = (wide.data.toList, rest.data.toList, f1)) (h2 : Lib.cut rest.data.toList [47] = (left.data.toList, right.data.toList, f2))
    (o1 : (Num.num wide).2 = true) (o2 : (Num.num left).2 = true) (o3 : (Num.num right).2 = true)
    (hg : (1 ≤ (Num.num wide).1 ∧ (Num.num wide).1 ≤ 1000) ∧ (1 ≤ (Num.num left).1 ∧ (Num.num left).1 ≤ 1000) ∧ (1 ≤ (Num.num right).1 ∧ (Num.num right).1 ≤ 1000)) :
    ∃ x y z : Nat, good x y z ∧ s.data.toList = T x y z ∧ (Num.num wide).1 = x ∧ (Num.num left).1 = y ∧ (Num.num right).1 = z := by
  have e1 := num_true wide o1
  have e2 := num_true left o2
  have e3 := num_true right o3
  rw [itoa_nat _ (by omega)] at e1 e2 e3
  have er : rest.data.toList = left.data.toList ++ 47 :: right.data.toList := by
    rcases Dig.parts 47 rest.data.toList with hno | ⟨a, r, ha, e⟩
    · rw [Dig.cut_no 47 _ hno] at h2
      simp only [Prod.mk.injEq] at h2
      rw [num_nil right h2.2.1.symm] at o3
      cases o3
    · rw [e, Dig.cut_app 47 a r ha] at h2
      simp only [Prod.mk.injEq] at h2
      rw [e, h2.1, h2.2.1]
  have es : s.data.toList = wide.data.toList ++ 58 :: rest.data.toList := by
    rcases Dig.parts 58 s.data.toList with hno | ⟨a, r, ha, e⟩
    · rw [Dig.cut_no 58 _ hno] at h1
      simp only [Prod.mk.injEq] at h1
      rw [← h1.2.1] at er
      simp at er
    · rw [e, Dig.cut_app 58 a r ha] at h1
      simp only [Prod.mk.injEq] at h1
      rw [e, h1.1, h1.2.1]
  refine ⟨(Num.num wide).1.toNat, (Num.num left).1.toNat, (Num.num right).1.toNat, ⟨by omega, by omega, by omega⟩, ?_, by omega, by omega, by omega⟩
  rw [es, er, e1, e2, e3]
  rfl
theorem impl_back (s : ByteArray) (wide rest left right : ByteArray) (f1 f2 : Bool) (h1 : Lib.cut s.data.toList [58] = (wide.data.toList, rest.data.toList, f1)) (h2 : Lib.cut rest.data.toList [47] = (left.data.toList, right.data.toList, f2))
    (x y z : Nat) (hg : good x y z) (e : s.data.toList = T x y z) : Num.num wide = ((x : Int), true) ∧ Num.num left = ((y : Int), true) ∧ Num.num right = ((z : Int), true) := by
  rw [e] at h1
  unfold T at h1
  rw [Dig.cut_app 58 _ _ (not_dec 58 n58 x)] at h1
  simp only [Prod.mk.injEq] at h1
  rw [← h1.2.1, Dig.cut_app 47 _ _ (not_dec 47 n47 y)] at h2
  simp only [Prod.mk.injEq] at h2
  obtain ⟨g1, g2, g3⟩ := hg
  exact ⟨num_dec x (by omega) wide h1.1.symm, num_dec y (by omega) left h2.1.symm, num_dec z (by omega) right h2.2.1.symm⟩
theorem cut_le (c : UInt8) (l : List UInt8) : (Lib.cut l [c]).1.length ≤ l.length ∧ (Lib.cut l [c]).2.1.length ≤ l.length := by
  rcases Dig.parts c l with h | ⟨a, r, ha, rfl⟩
  · rw [Dig.cut_no c l h]; simp
  · rw [Dig.cut_app c a r ha]
    simp only [List.length_append, List.length_cons]
    omega
/-- What both readers of ladders tell, and that what is read is told back. -/
theorem ppart (k : Nat) (hk : 2000000000 ≤ k) (s : ByteArray) (hs : s.size ≤ 1048576) : ∃ (a b c : Int) (o : Bool), impl_ParseLadders.f s = some (a, b, c, o) ∧ spec_ParseLadders.f k s = some (a, b, c, o) ∧ (o = true → impl_LaddersText.f a b c = some (s, true)) := by
  obtain ⟨a, b, c, o, hf, ht⟩ := clParse_ev s (by omega)
  obtain ⟨l1, l2⟩ := cut_le 58 s.data.toList
  rw [← size_len] at l1 l2
  have hrs : (bs (Lib.cut s.data.toList [58]).2.1).size ≤ 1048576 := by rw [size_len, bs_list]; omega
  obtain ⟨l3, l4⟩ := cut_le 47 (bs (Lib.cut s.data.toList [58]).2.1).data.toList
  rw [← size_len (bs (Lib.cut s.data.toList [58]).2.1)] at l3 l4
  have h1 : Lib.cut s.data.toList [58] = ((bs (Lib.cut s.data.toList [58]).1).data.toList, (bs (Lib.cut s.data.toList [58]).2.1).data.toList, (Lib.cut s.data.toList [58]).2.2) := by rw [bs_list, bs_list]
  have h2 : Lib.cut (bs (Lib.cut s.data.toList [58]).2.1).data.toList [47] = ((bs (Lib.cut (bs (Lib.cut s.data.toList [58]).2.1).data.toList [47]).1).data.toList, (bs (Lib.cut (bs (Lib.cut s.data.toList [58]).2.1).data.toList [47]).2.1).data.toList, (Lib.cut (bs (Lib.cut s.data.toList [58]).2.1).data.toList [47]).2.2) := by rw [bs_list (Lib.cut (bs (Lib.cut s.data.toList [58]).2.1).data.toList [47]).1, bs_list (Lib.cut (bs (Lib.cut s.data.toList [58]).2.1).data.toList [47]).2.1]
  have c1 : lib_Cut.f s (⟨#[58]⟩ : ByteArray) = some (bs (Lib.cut s.data.toList [58]).1, bs (Lib.cut s.data.toList [58]).2.1, (Lib.cut s.data.toList [58]).2.2) := by
    unfold lib_Cut.f
    rw [if_pos (by omega)]
    rfl
  have c2 : lib_Cut.f (bs (Lib.cut s.data.toList [58]).2.1) (⟨#[47]⟩ : ByteArray) = some (bs (Lib.cut (bs (Lib.cut s.data.toList [58]).2.1).data.toList [47]).1, bs (Lib.cut (bs (Lib.cut s.data.toList [58]).2.1).data.toList [47]).2.1, (Lib.cut (bs (Lib.cut s.data.toList [58]).2.1).data.toList [47]).2.2) := by
    unfold lib_Cut.f
    rw [if_pos (by omega)]
    rfl
  have n0 : ∀ t : ByteArray, t.size ≤ 1048576 → impl_number.f t = some ((Num.num t).1, (Num.num t).2) := fun t h => by
    unfold impl_number.f
    rw [if_pos (by omega)]
  have n1 := n0 (bs (Lib.cut s.data.toList [58]).1) (by rw [size_len, bs_list]; omega)
  have n2 := n0 (bs (Lib.cut (bs (Lib.cut s.data.toList [58]).2.1).data.toList [47]).1) (by rw [size_len, bs_list]; omega)
  have n3 := n0 (bs (Lib.cut (bs (Lib.cut s.data.toList [58]).2.1).data.toList [47]).2.1) (by rw [size_len, bs_list]; omega)
  have T1 := impl_text s _ _ _ _ _ _ h1 h2
  have B1 := impl_back s _ _ _ _ _ _ h1 h2
  clear h1 h2 l1 l2 l3 l4 hrs n0
  generalize (bs (Lib.cut s.data.toList [58]).1) = wide at *
  generalize (bs (Lib.cut s.data.toList [58]).2.1) = rest at *
  generalize (Lib.cut s.data.toList [58]).2.2 = f1 at *
  generalize (bs (Lib.cut rest.data.toList [47]).1) = left at *
  generalize (bs (Lib.cut rest.data.toList [47]).2.1) = right at *
  generalize (Lib.cut rest.data.toList [47]).2.2 = f2 at *
  cases o with
  | true =>
    obtain ⟨x, y, z, hg, e, rfl, rfl, rfl⟩ := ht.2 rfl
    obtain ⟨b1, b2, b3⟩ := B1 x y z hg e
    rw [b1] at n1
    rw [b2] at n2
    rw [b3] at n3
    obtain ⟨g1, g2, g3⟩ := hg
    have hG : G (x : Int) (y : Int) (z : Int) := ⟨by omega, by omega, by omega⟩
    refine ⟨x, y, z, true, ?_, ?_, fun _ => ?_⟩
    · simp only [impl_ParseLadders.f]
      rw [c1]
      simp only [Option.bind_some]
      rw [c2]
      simp only [Option.bind_some]
      rw [n1]
      simp only [Option.bind_some]
      rw [n2]
      simp only [Option.bind_some]
      rw [n3]
      simp only [Option.bind_some, if_true]
      rw [chk, if_pos hG]
      rfl
    · simp only [spec_ParseLadders.f]
      rw [hf k (by omega)]
      rfl
    · rw [ltextI x y z hG]
      congr 2
      apply ByteArray.ext
      apply Array.toList_inj.1
      rw [ltext_T, e]
  | false =>
    refine ⟨0, 0, 0, false, ?_, ?_, fun h => by cases h⟩
    · have hno : ∀ x y z : Nat, good x y z → s.data.toList ≠ T x y z := fun x y z hg e => by
        have := (ht.1 x y z hg e).1
        cases this
      simp only [impl_ParseLadders.f]
      rw [c1]
      simp only [Option.bind_some]
      rw [c2]
      simp only [Option.bind_some]
      rw [n1]
      simp only [Option.bind_some]
      rw [n2]
      simp only [Option.bind_some]
      rw [n3]
      simp only [Option.bind_some, chk]
      by_cases oo : (Num.num wide).2 = true ∧ (Num.num left).2 = true ∧ (Num.num right).2 = true
      · obtain ⟨o1, o2, o3⟩ := oo
        have hng : ¬ G (Num.num wide).1 (Num.num left).1 (Num.num right).1 := fun hg => by
          obtain ⟨x, y, z, h1, h2, _⟩ := T1 o1 o2 o3 hg
          exact hno x y z h1 h2
        rw [if_neg hng]
        simp [o1, o2, o3]
      · have h3 : ((Num.num wide).2 && (Num.num left).2 && (Num.num right).2) = false := by
          cases h1 : (Num.num wide).2 <;> cases h2 : (Num.num left).2 <;> cases h3 : (Num.num right).2 <;> simp_all
        cases h1 : (Num.num wide).2 <;> cases h2 : (Num.num left).2 <;> cases h3 : (Num.num right).2 <;> simp_all
    · simp only [spec_ParseLadders.f]
      rw [hf k (by omega)]
      rfl
end Go.Proofs.YtkhhlnpiogfofaaDoor.LWText
