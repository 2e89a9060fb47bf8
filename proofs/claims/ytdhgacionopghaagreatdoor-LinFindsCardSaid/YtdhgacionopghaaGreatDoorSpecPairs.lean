/- spec: pairs, what a map tells, as a slice. -/
import Derived.Maps.AppendAt
import Derived.RangeFuncNested
import Derived.Test.YtdhgacionopghaaGreatDoorDictIter
import Derived.Test.YtdhgacionopghaaGreatDoorDictKept
namespace Go.Proofs.YtdhgacionopghaaGreatDoor.DcI
open Go.RowKit Go.Shelf Dc DcM DcW DcL DcR
set_option linter.unusedVariables false
attribute [local go_sem] Oper.semAt_some

set_option maxRecDepth 100000 in
set_option maxHeartbeats 4000000 in
theorem pairs_any (w : World) (b0 g : Nat) (kb vb : Option Nat) (l : List Pr) (hD : IsD w b0 g kb vb l) (hl : l.length < 1000000) :
    Calls Tryz.prog 60 #[.pointer (some ⟨g, 0, none⟩)] w fun e w' => ∃ v, e = .returned v ∧ w'.ownsRow w.heap.size 74 2 v l.length (cellsP l) ∧ Below w.heap.size w w' := by
  refine (callsIn_wide (n := 5)).1 ?_
  have hro : Fence.wide.round = none := rfl
  have h36 : Fence.wide.fn 69 := trivial
  have h41 : Fence.wide.fn 82 := trivial
  have h27 : Fence.wide.fn 60 := trivial
  obtain ⟨i0, hi, hz0, hz1, hz2⟩ := info_parts infoP
  refine callsIn_of_wp_marks Tryz.func60 rfl h27 ?_ hro
  simp only [Tryz.ntmps60, List.size_toArray, List.length_cons, List.length_nil, Nat.reduceAdd, Nat.reduceSub, Array.replicate_succ, Array.replicate_zero, List.push_toArray, List.append_toArray, List.nil_append, List.cons_append]
  gi_wp2_with (gi_at_call 69; refine (all_in Fence.wide _ h36 hro _ _).mono ?_; rintro e w' ⟨rfl, rfl⟩)
  have bO := Boxed.new w 38 (.slice none 0 0)
  have bN := Boxed.new (w.alloc (.cells #[.slice none 0 0] 38)) 87 (.pointer (some ⟨g, 0, none⟩))
  rw [World.size_alloc] at bN
  have bO2 := bO.alloc (.cells #[.pointer (some ⟨g, 0, none⟩)] 87)
  have hB0 : Below w.heap.size w ((w.alloc (.cells #[.slice none 0 0] 38)).alloc (.cells #[.pointer (some ⟨g, 0, none⟩)] 87)) :=
    ((Below.refl _ w).alloc (Nat.le_refl _) _).alloc (by simp) _
  obtain ⟨W0, hW0⟩ : ∃ W0, W0 = (w.alloc (.cells #[.slice none 0 0] 38)).alloc (.cells #[.pointer (some ⟨g, 0, none⟩)] 87) := ⟨_, rfl⟩
  have hs0 : W0.heap.size = w.heap.size + 2 := by rw [hW0]; simp
  have hrow1 : W0.ownsRow w.heap.size 74 2 (.slice none 0 0) 0 [] := World.ownsRow_nil _ _ _ _
  rw [← hW0] at bN bO2 hB0 ⊢
  refine wpIn_rangeFunc_ownG hro (by omega) (gf := 82) (lb := #[.pointer (some ⟨w.heap.size + 1, 0, none⟩)]) rfl h41 (enters_of Tryz.func82 (by kernel_rfl) rfl)
    (all_stops Fence.wide _ h41 hro (by omega) (w.heap.size + 1) b0 w.heap.size g kb vb l hl W0 (by omega) hB0.size hD.lt_size (fun k e => (hD.kb_lt.1 k e).2.1) (fun k e => (hD.kb_lt.2 k e).2.1) bN.cell (hD.below hB0))
    KpD.trans (KpD.put hB0.size (by omega)) (Below.refl _ _) (fun _ => rfl)
    (fun pre W => ((∃ v, Boxed W w.heap.size 38 v ∧ W.ownsRow w.heap.size 74 2 v pre.length (cellsP pre) ∧ True) ∧ Boxed W (w.heap.size + 1) 87 (.pointer (some ⟨g, 0, none⟩))) ∧ Below w.heap.size w W)
    (fun _ _ _ => False)
    (OwnFrom.and (OwnFrom.and (Own.from (holdsRow_own w.heap.size w.heap.size 38 74 2 (fun (pre : List Pr) => pre.length) cellsP (fun _ _ => True)) _) (Own.from (boxed_own (w.heap.size + 1) 87 (fun _ => .pointer (some ⟨g, 0, none⟩))) _)) (ownFrom_below (Nat.le_refl _) (by omega)))
    (fun _ _ _ _ _ hs _ _ => hs)
    ⟨⟨⟨_, bO2, hrow1, trivial⟩, bN⟩, hB0⟩
    (fun x => { tmps := #[.pointer (some ⟨g, 0, none⟩), undef, .slice none 0 0, .pointer (some ⟨w.heap.size, 0, none⟩), .string x.1, .string x.2, .pointer (some ⟨g, 0, none⟩), .func (.func 82) #[] #[.pointer (some ⟨w.heap.size + 1, 0, none⟩)], .string x.1, .string x.2,
      undef, undef, undef, undef, undef, undef, undef], defers := [] }) ?assign ?body ?done ?stop
  case assign =>
    intro l x W K hK
    simp only [encs]
    gi_wp2
    exact hK
  case body =>
    rintro lo pre x W ⟨⟨⟨v, hv, hrow, _⟩, hbn⟩, hB⟩ hlt
    obtain ⟨x1, x2⟩ := x
    have hc := hv.cell
    have hlen : pre.length < 1000000 := by omega
    gi_wp2_with (gi_at_builtin; refine wpListIn_append_own _ rfl _ _ 38 rfl w.heap.size 74 i0 (.agg #[.string ⟨#[]⟩, .string ⟨#[]⟩]) 2 32 Tryz.underlying38 hi hz0 hz1 hz2 rfl (by decide) _ _ _ rfl (hrow.alloc _) ⟨W.heap.size, 0, none⟩ 1 1 [.string x1, .string x2] rfl rfl (cell_two_new _ _ _ _) (by simp [Value.oneCell']) (by simp [maxLen]; omega) (by omega) (by have := hB.size; simp; omega) ?_; intro v' w1 hown' hgrow hnil; obtain ⟨g', cap', rfl⟩ := ownsRow_succ hown'; obtain ⟨hv1, hv2, hr2, hk2, hb2⟩ := hv.appended (by decide) hrow hB.size (by omega) hown' hgrow; have hc1 := hv1.cell; have hf1 := hv1.frozen)
    have hn2 := ((hbn.alloc _).kept hgrow (hbn.not_row (by decide) hrow)).other (show w.heap.size + 1 ≠ w.heap.size by omega) (.slice (some ⟨g', 0, none⟩) (pre.length + 1) cap')
    refine ⟨hk2.from _, ⟨hb2, (show _ = _ from hn2).trans (show _ = _ from hbn).symm⟩, ⟨⟨_, hv2, ?_⟩, hn2⟩, hB.trans hb2⟩
    rw [cellsP_snoc, List.length_append]; exact hr2
  case done =>
    rintro D ys W hD rfl ⟨⟨⟨v, hv, hrow, _⟩, hbn⟩, hB⟩ hK
    have hc := hv.cell
    gi_wp2
    refine ⟨by simp, .inl ⟨_, _, rfl, run_takeDeferred hK, ?_⟩⟩
    exact ⟨_, results_tmp rfl _ _ _, v, rfl, ownsRow_putObj hrow _ hK rfl, hB.trans (belowK_b (w := w) (Nat.le_refl _) W D _ _ (by omega) hK rfl rfl)⟩
  case stop =>
    rintro D c pre W _ _ h _
    exact h.elim
end Go.Proofs.YtdhgacionopghaaGreatDoor.DcI
namespace Go.Proofs.YtdhgacionopghaaGreatDoor.DcL
open Go.RowKit Dc DcI
theorem pairs_m {n0 g : Nat} {w : World} {l : List Pr} (h : MapAt n0 w g l) (hl : l.length < 1000000) :
    Calls Tryz.prog 60 #[.pointer (some ⟨g, 0, none⟩)] w fun e w' => ∃ v, e = .returned v ∧ w'.ownsRow w.heap.size 74 2 v l.length (cellsP l) ∧ Below w.heap.size w w' := by
  obtain ⟨kb, vb, hD, hs, hn⟩ := id h
  exact pairs_any w n0 g kb vb l hD hl
end Go.Proofs.YtdhgacionopghaaGreatDoor.DcL
