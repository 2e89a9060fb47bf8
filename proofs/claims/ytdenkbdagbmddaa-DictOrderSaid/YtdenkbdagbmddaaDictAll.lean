/- dict: the law's own 'all': what a map tells, at most so many. -/
import Derived.Maps.AppendAt
import Derived.RangeFuncNested
import Derived.Test.YtdenkbdagbmddaaDictIter
import Derived.Test.YtdenkbdagbmddaaDictCells
namespace Go.Proofs.Ytdenkbdagbmddaa.DcI
open Go.RowKit Go.Shelf Dc DcM DcW
set_option linter.unusedVariables false
attribute [local go_sem] Oper.semAt_some

theorem equalIn_func_nil (d f : Nat) (lb : Array Value) (w : World) : Sem.run Try.prog (Op.equalIn (d + 1) 44 (.func (.func f) #[] lb) .nilFunc) w = .ok false w := by
  simp [Op.equalIn, run_underlying Try.underlying44]
theorem equal_func_nil (f : Nat) (lb : Array Value) (w : World) : Sem.run Try.prog (Op.equal 44 (.func (.func f) #[] lb) .nilFunc) w = .ok false w := equalIn_func_nil 9999 f lb w
theorem func_not_nil (f : Nat) (lb : Array Value) (w : World) : Sem.run Try.prog (binOp .eql 44 (.func (.func f) #[] lb) .nilFunc) w = .ok (.bool false) w := by
  simp [binOp, go_sem, equal_func_nil]
set_option maxRecDepth 100000 in
set_option maxHeartbeats 4000000 in
theorem lawall_any (w : World) (b0 g : Nat) (kb vb : Option Nat) (l : List Pr) (most : Nat) (hD : IsD w b0 g kb vb l) (hl : l.length < 1000000) :
    Calls Try.prog 7 #[.pointer (some ⟨g, 0, none⟩), .int .i64 most] w fun e w' => ∃ v, e = .returned v ∧ w'.ownsRow w.heap.size 24 2 v (l.take most).length (cellsP (l.take most)) ∧ Below w.heap.size w w' := by
  refine (callsIn_wide (n := 5)).1 ?_
  have hro : Fence.wide.round = none := rfl
  have h36 : Fence.wide.fn 17 := trivial
  have h41 : Fence.wide.fn 23 := trivial
  have h27 : Fence.wide.fn 7 := trivial
  obtain ⟨i0, hi, hz0, hz1, hz2⟩ := info_parts infoP
  have hfn := func_not_nil
  refine callsIn_of_wp_marks Try.func7 rfl h27 ?_ hro
  simp only [Try.ntmps7, List.size_toArray, List.length_cons, List.length_nil, Nat.reduceAdd, Nat.reduceSub, Array.replicate_succ, Array.replicate_zero, List.push_toArray, List.append_toArray, List.nil_append, List.cons_append]
  gi_wp2_with (gi_at_call 17; refine (all_in Fence.wide _ h36 hro _ _).mono ?_; rintro e w' ⟨rfl, rfl⟩)
  have bM := Boxed.new w 3 (.int .i64 most)
  have bM2 := ((bM.alloc (.cells #[] 24)).alloc (.cells #[.slice (some ⟨w.heap.size + 1, 0, none⟩) 0 0] 22)).alloc (.cells #[.pointer (some ⟨g, 0, none⟩)] 26)
  have bO := Boxed.new ((w.alloc (.cells #[.int .i64 most] 3)).alloc (.cells #[] 24)) 22 (.slice (some ⟨w.heap.size + 1, 0, none⟩) 0 0)
  have bN := Boxed.new (((w.alloc (.cells #[.int .i64 most] 3)).alloc (.cells #[] 24)).alloc (.cells #[.slice (some ⟨w.heap.size + 1, 0, none⟩) 0 0] 22)) 26 (.pointer (some ⟨g, 0, none⟩))
  simp only [World.size_alloc] at bO bN
  have bO2 := bO.alloc (.cells #[.pointer (some ⟨g, 0, none⟩)] 26)
  have hrow0 : ((w.alloc (.cells #[.int .i64 most] 3)).alloc (.cells #[] 24)).ownsRow w.heap.size 24 2 (.slice (some ⟨w.heap.size + 1, 0, none⟩) 0 0) 0 [] := by
    have := World.ownsRow_lit (base := w.heap.size) (e := 24) (size := 2) (w.alloc (.cells #[.int .i64 most] 3)) #[] 0 (by simp) (by decide) rfl
    simpa using this
  have hrow1 := (hrow0.alloc (.cells #[.slice (some ⟨w.heap.size + 1, 0, none⟩) 0 0] 22)).alloc (.cells #[.pointer (some ⟨g, 0, none⟩)] 26)
  have hB0 : Below w.heap.size w ((((w.alloc (.cells #[.int .i64 most] 3)).alloc (.cells #[] 24)).alloc (.cells #[.slice (some ⟨w.heap.size + 1, 0, none⟩) 0 0] 22)).alloc (.cells #[.pointer (some ⟨g, 0, none⟩)] 26)) :=
    ((((Below.refl _ w).alloc (Nat.le_refl _) _).alloc (by simp) _).alloc (by simp; omega) _).alloc (by simp; omega) _
  obtain ⟨W0, hW0⟩ : ∃ W0, W0 = ((((w.alloc (.cells #[.int .i64 most] 3)).alloc (.cells #[] 24)).alloc (.cells #[.slice (some ⟨w.heap.size + 1, 0, none⟩) 0 0] 22)).alloc (.cells #[.pointer (some ⟨g, 0, none⟩)] 26)) := ⟨_, rfl⟩
  have hs0 : W0.heap.size = w.heap.size + 4 := by rw [hW0]; simp
  rw [← hW0] at bM2 bN bO2 hrow1 hB0 ⊢
  refine wpIn_rangeFunc_ownG hro (by omega) (gf := 23) (lb := #[.pointer (some ⟨w.heap.size + 1 + 1 + 1, 0, none⟩)]) rfl h41 (enters_of Try.func23 (by kernel_rfl) rfl)
    (all_stops Fence.wide _ h41 hro (by omega) (w.heap.size + 1 + 1 + 1) b0 w.heap.size g kb vb l hl W0 (by omega) hB0.size hD.lt_size (fun k e => (hD.kb_lt.1 k e).2.1) (fun k e => (hD.kb_lt.2 k e).2.1) bN.cell (hD.below hB0))
    KpD.trans (KpD.put hB0.size (by omega)) (Below.refl _ _) (fun _ => rfl)
    (fun pre W => ((∃ v, Boxed W (w.heap.size + 1 + 1) 22 v ∧ W.ownsRow w.heap.size 24 2 v pre.length (cellsP pre) ∧ pre.length ≤ most) ∧ (Boxed W w.heap.size 3 (.int .i64 most) ∧ Boxed W (w.heap.size + 1 + 1 + 1) 26 (.pointer (some ⟨g, 0, none⟩)))) ∧ Below w.heap.size w W)
    (fun c pre W => ((c = .exit 0 ∧ ∃ ini x, pre = ini ++ [x] ∧ ini.length = most) ∧ (∃ v, Boxed W (w.heap.size + 1 + 1) 22 v ∧ W.ownsRow w.heap.size 24 2 v pre.dropLast.length (cellsP pre.dropLast) ∧ True)) ∧ Below w.heap.size w W)
    (OwnFrom.and (OwnFrom.and (Own.from (holdsRow_own w.heap.size (w.heap.size + 1 + 1) 22 24 2 (fun (pre : List Pr) => pre.length) cellsP (fun (pre : List Pr) _ => pre.length ≤ most)) _) (OwnFrom.and (Own.from (boxed_own w.heap.size 3 (fun _ => .int .i64 most)) _) (Own.from (boxed_own (w.heap.size + 1 + 1 + 1) 26 (fun _ => .pointer (some ⟨g, 0, none⟩))) _))) (ownFrom_below (Nat.le_refl _) (by omega)))
    (fun c => OwnFrom.and (OwnFrom.and (ownFrom_pure _ _) (Own.from (holdsRow_own w.heap.size (w.heap.size + 1 + 1) 22 24 2 (fun (pre : List Pr) => pre.dropLast.length) (fun (pre : List Pr) => cellsP pre.dropLast) (fun _ _ => True)) _)) (ownFrom_below (Nat.le_refl _) (by omega)))
    ⟨⟨⟨_, bO2, hrow1, Nat.zero_le _⟩, bM2, bN⟩, hB0⟩
    (fun x => { tmps := #[.pointer (some ⟨g, 0, none⟩), .int .i64 most, undef, .pointer (some ⟨w.heap.size, 0, none⟩), .slice none 0 0, .pointer (some ⟨w.heap.size + 1 + 1, 0, none⟩), .func (.func 23) #[] #[.pointer (some ⟨w.heap.size + 1 + 1 + 1, 0, none⟩)], .string x.1, .string x.2,
      .slice (some ⟨w.heap.size + 1, 0, none⟩) 0 0, .pointer (some ⟨g, 0, none⟩), .func (.func 23) #[] #[.pointer (some ⟨w.heap.size + 1 + 1 + 1, 0, none⟩)], .func (.func 23) #[] #[.pointer (some ⟨w.heap.size + 1 + 1 + 1, 0, none⟩)], .bool false, undef, undef, undef,
      .func (.func 23) #[] #[.pointer (some ⟨w.heap.size + 1 + 1 + 1, 0, none⟩)], .string x.1, .string x.2, undef, undef, undef, undef, undef, undef, undef, undef, undef, undef, undef], defers := [] }) ?assign ?body ?done ?stop
  case assign =>
    intro l x W K hK
    simp only [encs]
    gi_wp2
    exact hK
  case body =>
    rintro lo pre x W ⟨⟨⟨v, hv, hrow, hle⟩, hbm, hbn⟩, hB⟩ hlt
    obtain ⟨x1, x2⟩ := x
    obtain ⟨A, cap, rfl⟩ := owns_shape hrow
    have hc := hv.cell
    have hcm := hbm.cell
    have hlen : pre.length < 1000000 := by omega
    gi_wp2_with (gi_at_builtin; refine wpListIn_append_own _ rfl _ _ 22 rfl w.heap.size 24 i0 (.agg #[.string ⟨#[]⟩, .string ⟨#[]⟩]) 2 32 Try.underlying22 hi hz0 hz1 hz2 rfl (by decide) _ _ _ rfl (hrow.alloc _) ⟨W.heap.size, 0, none⟩ 1 1 [.string x1, .string x2] rfl rfl (cell_two_new _ _ _ _) (by simp [Value.oneCell']) (by simp [maxLen]; omega) (by omega) (by have := hB.size; simp; omega) ?_; intro v' w1 hown' hgrow hnil; obtain ⟨g', cap', rfl⟩ := ownsRow_succ hown'; obtain ⟨hv1, hv2, hr2, hk2, hb2⟩ := hv.appended (by decide) hrow hB.size (by omega) hown' hgrow; have hc1 := hv1.cell; have hf1 := hv1.frozen)
    · have hpm : pre.length = most := by rename_i h; have := eq_of_beq h; exact Int.ofNat.inj this
      refine ⟨KeepsFrom.refl _ _, ⟨⟨rfl, pre, (x1, x2), rfl, hpm⟩, _, hv, ?_, trivial⟩, hB⟩
      rw [List.dropLast_concat]; exact hrow
    · have hpm : pre.length ≠ most := by rename_i h; intro e; rw [e] at h; exact absurd ((beq_self_eq_true _).symm.trans h) (by decide)
      have hm2 := ((hbm.alloc _).kept hgrow (hbm.not_row (by decide) hrow)).other (show w.heap.size ≠ w.heap.size + 1 + 1 by omega) (.slice (some ⟨g', 0, none⟩) (pre.length + 1) cap')
      have hn2 := ((hbn.alloc _).kept hgrow (hbn.not_row (by decide) hrow)).other (show w.heap.size + 1 + 1 + 1 ≠ w.heap.size + 1 + 1 by omega) (.slice (some ⟨g', 0, none⟩) (pre.length + 1) cap')
      refine ⟨hk2.from _, ⟨hb2, (show _ = _ from hn2).trans (show _ = _ from hbn).symm⟩, ⟨⟨_, hv2, ?_, by simp; omega⟩, hm2, hn2⟩, hB.trans hb2⟩
      rw [cellsP_snoc, List.length_append]; exact hr2
  case done =>
    rintro D ys W hD rfl ⟨⟨⟨v, hv, hrow, hle⟩, hbm, hbn⟩, hB⟩ hK
    have hc := hv.cell
    gi_wp2
    refine ⟨by simp, .inl ⟨_, _, rfl, run_takeDeferred hK, ?_⟩⟩
    refine ⟨_, results_tmp rfl _ _ _, v, rfl, ?_, hB.trans (belowK_b (w := w) (Nat.le_refl _) W D _ _ (by omega) hK rfl rfl)⟩
    rw [List.take_of_length_le hle]
    exact ownsRow_putObj hrow _ hK rfl
  case stop =>
    rintro D c pre W hD hpre ⟨⟨⟨rfl, ini, x, rfl, hini⟩, v, hv, hrow, _⟩, hB⟩ hK
    rw [List.dropLast_concat] at hrow
    have hc := hv.cell
    gi_wp2
    refine ⟨by simp, .inl ⟨_, _, rfl, run_takeDeferred hK, ?_⟩⟩
    refine ⟨_, results_tmp rfl _ _ _, v, rfl, ?_, hB.trans (belowK_b (w := w) (Nat.le_refl _) W D _ _ (by omega) hK rfl rfl)⟩
    obtain ⟨t, ht⟩ := hpre
    have : l.take most = ini := by rw [← ht, List.append_assoc, ← hini, List.take_left]
    rw [this]
    exact ownsRow_putObj hrow _ hK rfl
end Go.Proofs.Ytdenkbdagbmddaa.DcI
