/- order: Map. -/
import Derived.Test.YtdhgacionopghaaOrdMaps
namespace Go.Proofs.Ytdhgacionopghaa.Od
open Go.RowKit Go.Shelf Dc DcM DcW DcI DcR DcL Sp
set_option linter.unusedVariables false
set_option maxRecDepth 100000 in
set_option maxHeartbeats 8000000 in
theorem map_any (w : World) (v u : Value) (l : List CV) (row : List Int) (h : Cls w v l) (h' : Its w u row) (hn : l.length < 1000000) (hn' : row.length < 10000) :
    Calls Try.prog 28 #[v, u] w fun e w' => ∃ v', e = .returned v' ∧ Prs w' v' (behindM l row) ∧ Below w.heap.size w w' := by
  have C := Lib.hid (maps_any w v u l row h h' hn hn')
  clear h h'
  go_enter Try.func28, Try.ntmps28
  go_wp2_with fail
  refine C.out.mono ?_
  rintro e w1 ⟨v1, vs, rfl, hrow, hmp, hb⟩
  obtain ⟨g, cap, rfl⟩ := ownsRow_succ hrow
  obtain ⟨x, hx⟩ : ∃ x, vs[row.length]? = some x := ⟨_, List.getElem?_eq_getElem (by rw [hmp.1]; omega)⟩
  have hpx := hmp.2 _ x hx
  rw [List.take_length] at hpx
  have hcx : w1.cell? ⟨g, row.length, none⟩ = some x := by rw [← add0]; exact hrow.cells (g := g) rfl _ x hx
  obtain ⟨Ax, cx, ex⟩ := owns_shape hpx
  subst ex
  have hln := length_behind l row [] List.Pairwise.nil
  have HP := Lib.hid (Prs.of_owns hpx)
  have HB := Lib.hid hb
  have HLN := Lib.hid (show (behindM l row).length < 1000000 by unfold behindM; simp at hln; omega)
  clear hrow hmp hx hpx hb hln
  go_wp2_with fail
  refine (clone_any w1 _ (behindM l row) HP.out HLN.out).mono ?_
  rintro e w2 ⟨v2, rfl, hp2, hb2⟩
  have P2 := Lib.hid (Prs.of_owns hp2)
  have B2 := Lib.hid (HB.out.trans (hb2.mono HB.out.size))
  clear hp2 hb2
  go_wp2_with fail
  go_ret
  exact ⟨_, rfl, P2.out, B2.out⟩
end Go.Proofs.Ytdhgacionopghaa.Od
