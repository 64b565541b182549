/- What impl.text and impl.number tell, in every world in which the library's tables lie as the row lists them. Conditions: the world's tables (Ready), the string's length. -/
import Derived.Test.YtkhhlnpiogfofaaDoorShelf
import Derived.Test.YtkhhlnpiogfofaaDoorNum
import Derived.Sort.Grow
import Derived.Lib.AtoiErrMem
namespace Go.Proofs.YtkhhlnpiogfofaaDoor.TextC
open Go.RowKit Go.Proofs.YtkhhlnpiogfofaaDoorW.PrintWords Go.Proofs.YtkhhlnpiogfofaaDoor.Num
set_option linter.unusedVariables false

def Tab (w : World) : Prop := Lib.TabIs Tryd.prog w "internal/strconv.uint64pow10" .u64 Lib.pow10Tab
theorem tab_below {w w1 : World} (hb : Below w.heap.size w w1) (h : Tab w) : Tab w1 := by
  unfold Tab Lib.TabIs World.var? at *
  cases hg : Tryd.prog.globalNamed "internal/strconv.uint64pow10" with
  | none => simp [hg] at h
  | some g =>
    simp only [hg, Option.bind_some] at h ⊢
    have hlt : g < w.heap.size := by
      rcases Nat.lt_or_ge g w.heap.size with h' | h'
      · exact h'
      · rw [Array.getElem?_eq_none h'] at h; simp at h
    rw [hb.block g hlt]
    exact h
def ErrAt (g : Nat) (w : World) : Prop := ∃ ev, w.cell? ⟨g, 0, none⟩ = some ev ∧ (ev = .nilIface ∨ ∃ te pe, ev = .iface te pe)
theorem cell_below {w w1 : World} {p : Addr} {v : Value} (hb : Below w.heap.size w w1) (h : w.cell? p = some v) : w1.cell? p = some v := (hb.cell (World.block_lt_of_cell? w p h)).trans h
theorem err_below {g : Nat} {w w1 : World} (hb : Below w.heap.size w w1) (h : ErrAt g w) : ErrAt g w1 := let ⟨ev, h1, h2⟩ := h; ⟨ev, cell_below hb h1, h2⟩
/-- The world bears what the library's texts read. -/
def Ready (w : World) : Prop := Tab w ∧ ErrAt 1 w ∧ ErrAt 2 w ∧ ∃ m, w.cell? ⟨0, 0, none⟩ = some (.int .i64 m)
theorem Ready.below {w w1 : World} (h : Ready w) (hb : Below w.heap.size w w1) : Ready w1 := let ⟨h1, h2, h3, m, h4⟩ := h; ⟨tab_below hb h1, err_below hb h2, err_below hb h3, m, cell_below hb h4⟩

theorem below_grown (w : World) (k : Nat) (os : Array Obj) : Below w.heap.size w (Sort.grow (w.drewN k) os) :=
  ⟨rfl, rfl, rfl, by show w.heap.size ≤ (w.heap ++ os).size; rw [Array.size_append]; omega, fun j hj => (Sort.heap_grow_old (w.drewN k) os hj).trans rfl⟩

theorem text_calls (n : Int) (h0 : -9223372036854775808 ≤ n) (h1 : n ≤ 9223372036854775807) (w : World) (h : Tab w) :
    Calls Tryd.prog 68 #[.int .i64 n] w fun e w' => e = .returned (.string ⟨(Lib.itoa n).toArray⟩) ∧ Below w.heap.size w w' :=
  text_walk n w _ ((Tryd.strconv_Itoa n h0 h1 w h).mono fun e w' ⟨he, k, os, hw⟩ => ⟨he, hw ▸ below_grown _ _ _⟩)

theorem number_calls (s : ByteArray) (hs : s.size ≤ 281474976710656) (w : World) (h : Ready w) :
    Calls Tryd.prog 65 #[.string s] w fun e w' => e = .returned (.tuple #[.int .i64 (num s).1, .bool (num s).2]) ∧ Below w.heap.size w w' := by
  obtain ⟨hT, ⟨e1, hv1, he1⟩, ⟨e2, hv2, he2⟩, -⟩ := h
  rcases ha : Lib.atoiAll s.data.toList with v | _ | _
  · obtain ⟨b1, b2⟩ := Lib.atoiAll_bounds ha
    have e : num s = (v, (⟨(Lib.itoa v).toArray⟩ : ByteArray).toList == s.toList) := by unfold num; rw [ha]
    rw [e]
    refine number_ok s _ v w ((Tryd.strconv_Atoi_ok s (by omega) v ha w).mono fun e w' ⟨he, hw⟩ => ⟨he, ?_⟩) fun w1 hb => text_calls v b1 b2 w1 (tab_below hb hT)
    rcases hw with rfl | ⟨t, rfl⟩
    · exact Below.refl _ _
    · exact Lib.bytesWorld_below _ _ _
  · have e : num s = (0, false) := by unfold num; rw [ha]
    rw [e]
    exact number_err s 0 _ w ((Tryd.strconv_Atoi_other s hs (fun v h => by rw [ha] at h; cases h) (fun h => by rw [ha] at h; cases h) e1 w hv1 he1).mono fun e w' ⟨N, he, _, _, hb⟩ => ⟨N, he, hb⟩)
  · have e : num s = (Lib.atoiSat s.data.toList, false) := by unfold num; rw [ha]
    rw [e]
    exact number_err s _ _ w ((Tryd.strconv_Atoi_range s hs ha e2 w hv2 he2).mono fun e w' ⟨N, he, _, _, hb⟩ => ⟨N, he, hb⟩)
end Go.Proofs.YtkhhlnpiogfofaaDoor.TextC
