/- spec: keyed, an operation of a key. -/
import Derived.Test.YtdhgacionopghaaGreatDoorSpecRight
namespace Go.Proofs.YtdhgacionopghaaGreatDoor.Sp
open Go.RowKit Go.Shelf Dc DcM DcW DcI DcR DcL
set_option linter.unusedVariables false
theorem heap_setAt {w : World} {g : Nat} {cs : Array Value} {T : TypeId} {f : Nat × Nat} (i : Nat) (u : Value) (h : w.heap[g]? = some (.cells cs T f)) : (w.setCell ⟨g, i, none⟩ u).heap[g]? = some (.cells (cs.setIfInBounds i u) T f) := by
  simp [World.setCell, Array.getElem?_modify, h]
theorem heap_setNe {w : World} {g k : Nat} (i : Nat) (u : Value) (h : g ≠ k) : (w.setCell ⟨g, i, none⟩ u).heap[k]? = w.heap[k]? := by
  simp [World.setCell, Array.getElem?_modify, h]
theorem below_set {B : Nat} {a w : World} (h : Below B a w) {g : Nat} (hg : B ≤ g) (i : Nat) (u : Value) : Below B a (w.setCell ⟨g, i, none⟩ u) := h.setCell (p := ⟨g, i, none⟩) hg u

theorem store6 {w : World} {g : Nat} {a0 a1 a2 a3 a4 a5 : Value} {T : TypeId} {f : Nat × Nat} (b0 b1 b2 b3 b4 b5 : Value) (h : w.heap[g]? = some (.cells #[a0, a1, a2, a3, a4, a5] T f)) :
    ((((((w.setCell ⟨g, 0, none⟩ b0).setCell ⟨g, 1, none⟩ b1).setCell ⟨g, 2, none⟩ b2).setCell ⟨g, 3, none⟩ b3).setCell ⟨g, 4, none⟩ b4).setCell ⟨g, 5, none⟩ b5).heap[g]? = some (.cells #[b0, b1, b2, b3, b4, b5] T f) := by
  have := heap_setAt 5 b5 (heap_setAt 4 b4 (heap_setAt 3 b3 (heap_setAt 2 b2 (heap_setAt 1 b1 (heap_setAt 0 b0 h)))))
  simpa using this
theorem below6 {B : Nat} {a w : World} (h : Below B a w) {g : Nat} (hg : B ≤ g) (b0 b1 b2 b3 b4 b5 : Value) :
    Below B a ((((((w.setCell ⟨g, 0, none⟩ b0).setCell ⟨g, 1, none⟩ b1).setCell ⟨g, 2, none⟩ b2).setCell ⟨g, 3, none⟩ b3).setCell ⟨g, 4, none⟩ b4).setCell ⟨g, 5, none⟩ b5) :=
  below_set (below_set (below_set (below_set (below_set (below_set h hg _ _) hg _ _) hg _ _) hg _ _) hg _ _) hg _ _
theorem heap6 {w : World} {g k : Nat} (b0 b1 b2 b3 b4 b5 : Value) (hne : g ≠ k) :
    ((((((w.setCell ⟨g, 0, none⟩ b0).setCell ⟨g, 1, none⟩ b1).setCell ⟨g, 2, none⟩ b2).setCell ⟨g, 3, none⟩ b3).setCell ⟨g, 4, none⟩ b4).setCell ⟨g, 5, none⟩ b5).heap[k]? = w.heap[k]? := by
  rw [heap_setNe _ _ hne, heap_setNe _ _ hne, heap_setNe _ _ hne, heap_setNe _ _ hne, heap_setNe _ _ hne, heap_setNe _ _ hne]
theorem kept_set6 {n0 : Nat} {a w : World} (h : Kept n0 a w) {g : Nat} (hg : n0 ≤ g) (hga : a.heap.size ≤ g) (b0 b1 b2 b3 b4 b5 : Value) :
    Kept n0 a ((((((w.setCell ⟨g, 0, none⟩ b0).setCell ⟨g, 1, none⟩ b1).setCell ⟨g, 2, none⟩ b2).setCell ⟨g, 3, none⟩ b3).setCell ⟨g, 4, none⟩ b4).setCell ⟨g, 5, none⟩ b5) :=
  ⟨below6 h.below hg _ _ _ _ _ _, fun b cs T f hb h1 h2 => by
    have hlt := (Array.getElem?_eq_some_iff.1 hb).1
    rw [heap6 _ _ _ _ _ _ (by omega)]
    exact h.other b cs T f hb h1 h2⟩
theorem mapAt_kept {n0 g : Nat} {w w' : World} {l : List Pr} (h : MapAt n0 w g l) (hs : w.heap.size ≤ w'.heap.size) (hb : ∀ (k : Nat) (cs : Array Value) (T : TypeId) (f : Nat × Nat), w.heap[k]? = some (.cells cs T f) → T = 9 ∨ T = 105 → w'.heap[k]? = w.heap[k]?) : MapAt n0 w' g l := by
  obtain ⟨kb, vb, hD, hs2, hn⟩ := h
  refine ⟨kb, vb, ?_, hs2, Nat.le_trans hn hs⟩
  obtain ⟨ks, vs, hh, hg, hk, hv, e1, e2, hne⟩ := id hD
  have row : ∀ (v : Value) (xs : List ByteArray), Row w n0 v xs → ∀ k, v.ownBlock = some k → w'.heap[k]? = w.heap[k]? := by
    rintro v xs ⟨_, ⟨rfl, _⟩ | ⟨b, cap, cur, rfl, h1, h2, h3⟩⟩ k hk
    · cases hk
    · obtain rfl : b = k := by simpa [Value.ownBlock] using hk
      exact hb _ _ _ _ h2 (Or.inl rfl)
  exact hD.kept (hb _ _ _ _ hh (Or.inr rfl)) (fun k e => row ks _ hk k (e1.trans e)) (fun k e => row vs _ hv k (e2.trans e))
theorem mapAt_set6 {n0 g : Nat} {w : World} {l : List Pr} (h : MapAt n0 w g l) {k : Nat} {cs : Array Value} {T : TypeId} {f : Nat × Nat} (hk : w.heap[k]? = some (.cells cs T f)) (h1 : T ≠ 9) (h2 : T ≠ 105) (b0 b1 b2 b3 b4 b5 : Value) :
    MapAt n0 ((((((w.setCell ⟨k, 0, none⟩ b0).setCell ⟨k, 1, none⟩ b1).setCell ⟨k, 2, none⟩ b2).setCell ⟨k, 3, none⟩ b3).setCell ⟨k, 4, none⟩ b4).setCell ⟨k, 5, none⟩ b5) g l :=
  mapAt_kept h (by simp) fun j cs' T' f' hj hT => heap6 _ _ _ _ _ _ (fun e => by
    subst e
    rw [hk] at hj
    injection hj with hj
    injection hj with _ ht
    subst ht
    rcases hT with rfl | rfl
    · exact h1 rfl
    · exact h2 rfl)
theorem infoRep : (Tryz.prog.info? 40).map (·.size) = some 6 := by kernel_rfl
theorem keyed_vals {m : List Pr} {gv key value old : ByteArray} {gh : Bool} {kd : Int} (hg : (gv, gh) = dget m key) (d : Bool) (hd : hit ⟨kd, key, value, old⟩ (gv, gh) = d) (pv : Value) :
    repC (keyedR m ⟨kd, key, value, old⟩) pv = #[.int .i64 0, .bool gh, .bool d, .string gv, .int .i64 0, pv] ∧ keyedM m ⟨kd, key, value, old⟩ = if d then (if 6 ≤ kd then del m key else put m key value) else m := by
  unfold keyedR keyedM repC
  dsimp only
  rw [← hg, hd]
  exact ⟨rfl, rfl⟩

set_option maxHeartbeats 16000000 in
set_option maxRecDepth 100000 in
theorem keyed_any {n0 g : Nat} {w : World} {m : List Pr} (hm : MapAt n0 w g m) (hl : m.length < 999999) (kd : Int) (key value old : ByteArray) (h1 : 1 ≤ kd) (h7 : kd ≤ 7) :
    Calls Tryz.prog 61 #[.pointer (some ⟨g, 0, none⟩), .agg #[.int .i64 kd, .string key, .string value, .string old]] w fun e w' =>
      e = .returned (.agg (repC (keyedR m ⟨kd, key, value, old⟩) (.slice none 0 0))) ∧ MapAt n0 w' g (keyedM m ⟨kd, key, value, old⟩) ∧ Kept n0 w w' := by
  have hn0 := hm.choose_spec.choose_spec.2.2
  obtain ⟨W1, hW1⟩ : ∃ W, W = (w.alloc (.cells #[.int .i64 kd, .string key, .string value, .string old] 42)).alloc (.cells #[.int .i64 0, .bool false, .bool false, .string ⟨#[]⟩, .int .i64 0, .slice none 0 0] 40) := ⟨_, rfl⟩
  have hb1 : Below w.heap.size w W1 := by rw [hW1]; exact ((Below.refl _ _).alloc (Nat.le_refl _) _).alloc (by simp) _
  have hx : W1.heap[w.heap.size]? = some (.cells #[.int .i64 kd, .string key, .string value, .string old] 42 (0, 0)) := by
    rw [hW1]; exact (Below.heap_alloc _ _ _ (by simp)).trans (heap_alloc_new w _)
  have hy : W1.heap[w.heap.size + 1]? = some (.cells #[.int .i64 0, .bool false, .bool false, .string ⟨#[]⟩, .int .i64 0, .slice none 0 0] 40 (0, 0)) := by
    rw [hW1]; have := heap_alloc_new (w.alloc (.cells #[.int .i64 kd, .string key, .string value, .string old] 42)) (.cells #[.int .i64 0, .bool false, .bool false, .string ⟨#[]⟩, .int .i64 0, .slice none 0 0] 40); simpa using this
  have hs1 : W1.heap.size = w.heap.size + 2 := by rw [hW1]; simp
  have HM1 := Lib.hid (hm.below hb1)
  have K1 := Lib.hid (Kept.of_below hb1 hn0)
  have HX := Lib.hid hx
  have HY := Lib.hid hy
  have HW := Lib.hid hW1
  have HS := Lib.hid hs1
  clear hx hy hb1 hm hs1 hW1
  go_enter Tryz.func61, Tryz.ntmps61
  go_wp2_with fail
  rw [← HW.out]
  refine (get_m HM1.out (by omega) key).mono ?_
  obtain ⟨⟨gv, gh⟩, hg⟩ : ∃ x, x = dget m key := ⟨_, rfl⟩
  rw [← hg]
  rintro e w2 ⟨rfl, hm2, hk2⟩
  have hx2 := (hk2.other _ _ _ _ HX.out (by decide) (by decide)).trans HX.out
  have hy2 := (hk2.other _ _ _ _ HY.out (by decide) (by decide)).trans HY.out
  have hs2 : w.heap.size + 2 ≤ w2.heap.size := by have := hk2.size; rw [HS.out] at this; exact this
  have hx3 : ∀ d, (w2.alloc (.cells #[.int .i64 0, .bool gh, .bool d, .string gv, .int .i64 0, .slice none 0 0] 40)).heap[w.heap.size]? = some (.cells #[.int .i64 kd, .string key, .string value, .string old] 42 (0, 0)) := fun d => (Below.heap_alloc _ _ _ (by omega)).trans hx2
  have hy3 : ∀ d, (w2.alloc (.cells #[.int .i64 0, .bool gh, .bool d, .string gv, .int .i64 0, .slice none 0 0] 40)).heap[w.heap.size + 1]? = some (.cells #[.int .i64 0, .bool false, .bool false, .string ⟨#[]⟩, .int .i64 0, .slice none 0 0] 40 (0, 0)) := fun d => (Below.heap_alloc _ _ _ (by omega)).trans hy2
  have hn2 : ∀ d, (w2.alloc (.cells #[.int .i64 0, .bool gh, .bool d, .string gv, .int .i64 0, .slice none 0 0] 40)).heap[w2.heap.size]? = some (.cells #[.int .i64 0, .bool gh, .bool d, .string gv, .int .i64 0, .slice none 0 0] 40 (0, 0)) := fun d => heap_alloc_new w2 _
  have e0 := fun d => cell_of (hx3 d) 0
  have e1 := fun d => cell_of (hx3 d) 1
  have e2 := fun d => cell_of (hx3 d) 2
  have e3 := fun d => cell_of (hx3 d) 3
  have q0 := fun d => cell_of (hy3 d) 0
  have z0 := fun d => frozen_of (hy3 d) 0
  have q1 := fun d => cell_of (hy3 d) 1
  have z1 := fun d => frozen_of (hy3 d) 1
  have q2 := fun d => cell_of (hy3 d) 2
  have z2 := fun d => frozen_of (hy3 d) 2
  have q3 := fun d => cell_of (hy3 d) 3
  have z3 := fun d => frozen_of (hy3 d) 3
  have q4 := fun d => cell_of (hy3 d) 4
  have z4 := fun d => frozen_of (hy3 d) 4
  have q5 := fun d => cell_of (hy3 d) 5
  have z5 := fun d => frozen_of (hy3 d) 5
  simp only [List.getElem?_toArray, List.getElem?_cons_succ, List.getElem?_cons_zero] at e0 e1 e2 e3 q0 q1 q2 q3 q4 q5
  have HX2 := Lib.hid hx2
  have HY2 := Lib.hid hy2
  have HM2 := Lib.hid hm2
  have K2 := Lib.hid (K1.out.trans hk2)
  have HG := Lib.hid hg
  have HX3 := Lib.hid hx3
  have HY3 := Lib.hid hy3
  have HN2 := Lib.hid hn2
  clear hx2 hy2 hm2 hk2 hg hx3 hy3 hn2
  dsimp only
  rcases (show kd = 1 ∨ kd = 2 ∨ kd = 3 ∨ kd = 4 ∨ kd = 5 ∨ kd = 6 ∨ kd = 7 by omega) with rfl | rfl | rfl | rfl | rfl | rfl | rfl
  · cases gh with
    | false =>
      have HV := Lib.hid (keyed_vals HG.out false (show hit ⟨1, key, value, old⟩ (gv, false) = false by simp [hit]) (.slice none 0 0))
      go_wp2_with fail
      refine bodyPost_ret (results_cell_row rfl _ _ (w.heap.size + 1) _ _ _ _ rfl (store6 _ _ _ _ _ _ (HY3.out false)) Tryz.underlying40 rfl infoRep) rfl ?_
      rw [HV.out.1, HV.out.2]
      have hbw : Below w2.heap.size w2 (w2.alloc (.cells #[.int .i64 0, .bool false, .bool false, .string gv, .int .i64 0, .slice none 0 0] 40)) := (Below.refl _ _).alloc (Nat.le_refl _) _
      exact ⟨rfl, mapAt_set6 (HM2.out.below hbw) (HY3.out false) (by decide) (by decide) _ _ _ _ _ _, kept_set6 (K2.out.trans (Kept.of_below hbw HM2.out.choose_spec.choose_spec.2.2)) (by omega) (by omega) _ _ _ _ _ _⟩
    | true =>
      by_cases hv : gv = old
      · have ho : (gv.toList == old.toList) = true := by rw [hv]; exact beq_self_eq_true _
        have HO := Lib.hid hv
        clear hv
        have HV := Lib.hid (keyed_vals HG.out false (show hit ⟨1, key, value, old⟩ (gv, true) = false by simp [hit, HO.out]) (.slice none 0 0))
        go_wp2_with fail
        refine bodyPost_ret (results_cell_row rfl _ _ (w.heap.size + 1) _ _ _ _ rfl (store6 _ _ _ _ _ _ (HY3.out false)) Tryz.underlying40 rfl infoRep) rfl ?_
        rw [HV.out.1, HV.out.2]
        have hbw : Below w2.heap.size w2 (w2.alloc (.cells #[.int .i64 0, .bool true, .bool false, .string gv, .int .i64 0, .slice none 0 0] 40)) := (Below.refl _ _).alloc (Nat.le_refl _) _
        exact ⟨rfl, mapAt_set6 (HM2.out.below hbw) (HY3.out false) (by decide) (by decide) _ _ _ _ _ _, kept_set6 (K2.out.trans (Kept.of_below hbw HM2.out.choose_spec.choose_spec.2.2)) (by omega) (by omega) _ _ _ _ _ _⟩
      · have ho : (gv.toList == old.toList) = false := by rw [beq_lists, decide_eq_false hv]
        have HO := Lib.hid hv
        clear hv
        have HV := Lib.hid (keyed_vals HG.out false (show hit ⟨1, key, value, old⟩ (gv, true) = false by simp [hit, HO.out]) (.slice none 0 0))
        go_wp2_with fail
        refine bodyPost_ret (results_cell_row rfl _ _ (w.heap.size + 1) _ _ _ _ rfl (store6 _ _ _ _ _ _ (HY3.out false)) Tryz.underlying40 rfl infoRep) rfl ?_
        rw [HV.out.1, HV.out.2]
        have hbw : Below w2.heap.size w2 (w2.alloc (.cells #[.int .i64 0, .bool true, .bool false, .string gv, .int .i64 0, .slice none 0 0] 40)) := (Below.refl _ _).alloc (Nat.le_refl _) _
        exact ⟨rfl, mapAt_set6 (HM2.out.below hbw) (HY3.out false) (by decide) (by decide) _ _ _ _ _ _, kept_set6 (K2.out.trans (Kept.of_below hbw HM2.out.choose_spec.choose_spec.2.2)) (by omega) (by omega) _ _ _ _ _ _⟩
  · cases gh with
    | false =>
      have HV := Lib.hid (keyed_vals HG.out true (show hit ⟨2, key, value, old⟩ (gv, false) = true by simp [hit]) (.slice none 0 0))
      go_wp2_with fail
      have hbw : Below w2.heap.size w2 (w2.alloc (.cells #[.int .i64 0, .bool false, .bool true, .string gv, .int .i64 0, .slice none 0 0] 40)) := (Below.refl _ _).alloc (Nat.le_refl _) _
      have HBW := Lib.hid hbw
      clear hbw
      refine (put_m (HM2.out.below HBW.out) (by omega) key value).mono ?_
      rintro e w5 ⟨rfl, hm5, hk5⟩
      have hx5 := (hk5.other _ _ _ _ (HX3.out true) (by decide) (by decide)).trans (HX3.out true)
      have hy5 := (hk5.other _ _ _ _ (HY3.out true) (by decide) (by decide)).trans (HY3.out true)
      have hr5 := (hk5.other _ _ _ _ (HN2.out true) (by decide) (by decide)).trans (HN2.out true)
      have s0 := cell_of hr5 0
      have t0 := cell_of hy5 0
      have v0 := frozen_of hy5 0
      have s1 := cell_of hr5 1
      have t1 := cell_of hy5 1
      have v1 := frozen_of hy5 1
      have s2 := cell_of hr5 2
      have t2 := cell_of hy5 2
      have v2 := frozen_of hy5 2
      have s3 := cell_of hr5 3
      have t3 := cell_of hy5 3
      have v3 := frozen_of hy5 3
      have s4 := cell_of hr5 4
      have t4 := cell_of hy5 4
      have v4 := frozen_of hy5 4
      have s5 := cell_of hr5 5
      have t5 := cell_of hy5 5
      have v5 := frozen_of hy5 5
      simp only [List.getElem?_toArray, List.getElem?_cons_succ, List.getElem?_cons_zero] at s0 t0 s1 t1 s2 t2 s3 t3 s4 t4 s5 t5
      have HM5 := Lib.hid hm5
      have K5 := Lib.hid (K2.out.trans ((Kept.of_below HBW.out HM2.out.choose_spec.choose_spec.2.2).trans hk5))
      have HY5 := Lib.hid hy5
      clear hm5 hk5 hx5 hy5 hr5
      go_wp2_with fail
      refine bodyPost_ret (results_cell_row rfl _ _ (w.heap.size + 1) _ _ _ _ rfl (store6 _ _ _ _ _ _ HY5.out) Tryz.underlying40 rfl infoRep) rfl ?_
      rw [HV.out.1, HV.out.2]
      exact ⟨rfl, mapAt_set6 HM5.out HY5.out (by decide) (by decide) _ _ _ _ _ _, kept_set6 K5.out (by omega) (by omega) _ _ _ _ _ _⟩
    | true =>
      by_cases hv : gv = old
      · have ho : (gv.toList == old.toList) = true := by rw [hv]; exact beq_self_eq_true _
        have HO := Lib.hid hv
        clear hv
        have HV := Lib.hid (keyed_vals HG.out true (show hit ⟨2, key, value, old⟩ (gv, true) = true by simp [hit, HO.out]) (.slice none 0 0))
        go_wp2_with fail
        have hbw : Below w2.heap.size w2 (w2.alloc (.cells #[.int .i64 0, .bool true, .bool true, .string gv, .int .i64 0, .slice none 0 0] 40)) := (Below.refl _ _).alloc (Nat.le_refl _) _
        have HBW := Lib.hid hbw
        clear hbw
        refine (put_m (HM2.out.below HBW.out) (by omega) key value).mono ?_
        rintro e w5 ⟨rfl, hm5, hk5⟩
        have hx5 := (hk5.other _ _ _ _ (HX3.out true) (by decide) (by decide)).trans (HX3.out true)
        have hy5 := (hk5.other _ _ _ _ (HY3.out true) (by decide) (by decide)).trans (HY3.out true)
        have hr5 := (hk5.other _ _ _ _ (HN2.out true) (by decide) (by decide)).trans (HN2.out true)
        have s0 := cell_of hr5 0
        have t0 := cell_of hy5 0
        have v0 := frozen_of hy5 0
        have s1 := cell_of hr5 1
        have t1 := cell_of hy5 1
        have v1 := frozen_of hy5 1
        have s2 := cell_of hr5 2
        have t2 := cell_of hy5 2
        have v2 := frozen_of hy5 2
        have s3 := cell_of hr5 3
        have t3 := cell_of hy5 3
        have v3 := frozen_of hy5 3
        have s4 := cell_of hr5 4
        have t4 := cell_of hy5 4
        have v4 := frozen_of hy5 4
        have s5 := cell_of hr5 5
        have t5 := cell_of hy5 5
        have v5 := frozen_of hy5 5
        simp only [List.getElem?_toArray, List.getElem?_cons_succ, List.getElem?_cons_zero] at s0 t0 s1 t1 s2 t2 s3 t3 s4 t4 s5 t5
        have HM5 := Lib.hid hm5
        have K5 := Lib.hid (K2.out.trans ((Kept.of_below HBW.out HM2.out.choose_spec.choose_spec.2.2).trans hk5))
        have HY5 := Lib.hid hy5
        clear hm5 hk5 hx5 hy5 hr5
        go_wp2_with fail
        refine bodyPost_ret (results_cell_row rfl _ _ (w.heap.size + 1) _ _ _ _ rfl (store6 _ _ _ _ _ _ HY5.out) Tryz.underlying40 rfl infoRep) rfl ?_
        rw [HV.out.1, HV.out.2]
        exact ⟨rfl, mapAt_set6 HM5.out HY5.out (by decide) (by decide) _ _ _ _ _ _, kept_set6 K5.out (by omega) (by omega) _ _ _ _ _ _⟩
      · have ho : (gv.toList == old.toList) = false := by rw [beq_lists, decide_eq_false hv]
        have HO := Lib.hid hv
        clear hv
        have HV := Lib.hid (keyed_vals HG.out true (show hit ⟨2, key, value, old⟩ (gv, true) = true by simp [hit, HO.out]) (.slice none 0 0))
        go_wp2_with fail
        have hbw : Below w2.heap.size w2 (w2.alloc (.cells #[.int .i64 0, .bool true, .bool true, .string gv, .int .i64 0, .slice none 0 0] 40)) := (Below.refl _ _).alloc (Nat.le_refl _) _
        have HBW := Lib.hid hbw
        clear hbw
        refine (put_m (HM2.out.below HBW.out) (by omega) key value).mono ?_
        rintro e w5 ⟨rfl, hm5, hk5⟩
        have hx5 := (hk5.other _ _ _ _ (HX3.out true) (by decide) (by decide)).trans (HX3.out true)
        have hy5 := (hk5.other _ _ _ _ (HY3.out true) (by decide) (by decide)).trans (HY3.out true)
        have hr5 := (hk5.other _ _ _ _ (HN2.out true) (by decide) (by decide)).trans (HN2.out true)
        have s0 := cell_of hr5 0
        have t0 := cell_of hy5 0
        have v0 := frozen_of hy5 0
        have s1 := cell_of hr5 1
        have t1 := cell_of hy5 1
        have v1 := frozen_of hy5 1
        have s2 := cell_of hr5 2
        have t2 := cell_of hy5 2
        have v2 := frozen_of hy5 2
        have s3 := cell_of hr5 3
        have t3 := cell_of hy5 3
        have v3 := frozen_of hy5 3
        have s4 := cell_of hr5 4
        have t4 := cell_of hy5 4
        have v4 := frozen_of hy5 4
        have s5 := cell_of hr5 5
        have t5 := cell_of hy5 5
        have v5 := frozen_of hy5 5
        simp only [List.getElem?_toArray, List.getElem?_cons_succ, List.getElem?_cons_zero] at s0 t0 s1 t1 s2 t2 s3 t3 s4 t4 s5 t5
        have HM5 := Lib.hid hm5
        have K5 := Lib.hid (K2.out.trans ((Kept.of_below HBW.out HM2.out.choose_spec.choose_spec.2.2).trans hk5))
        have HY5 := Lib.hid hy5
        clear hm5 hk5 hx5 hy5 hr5
        go_wp2_with fail
        refine bodyPost_ret (results_cell_row rfl _ _ (w.heap.size + 1) _ _ _ _ rfl (store6 _ _ _ _ _ _ HY5.out) Tryz.underlying40 rfl infoRep) rfl ?_
        rw [HV.out.1, HV.out.2]
        exact ⟨rfl, mapAt_set6 HM5.out HY5.out (by decide) (by decide) _ _ _ _ _ _, kept_set6 K5.out (by omega) (by omega) _ _ _ _ _ _⟩
  · cases gh with
    | false =>
      have HV := Lib.hid (keyed_vals HG.out true (show hit ⟨3, key, value, old⟩ (gv, false) = true by simp [hit]) (.slice none 0 0))
      go_wp2_with fail
      have hbw : Below w2.heap.size w2 (w2.alloc (.cells #[.int .i64 0, .bool false, .bool true, .string gv, .int .i64 0, .slice none 0 0] 40)) := (Below.refl _ _).alloc (Nat.le_refl _) _
      have HBW := Lib.hid hbw
      clear hbw
      refine (put_m (HM2.out.below HBW.out) (by omega) key value).mono ?_
      rintro e w5 ⟨rfl, hm5, hk5⟩
      have hx5 := (hk5.other _ _ _ _ (HX3.out true) (by decide) (by decide)).trans (HX3.out true)
      have hy5 := (hk5.other _ _ _ _ (HY3.out true) (by decide) (by decide)).trans (HY3.out true)
      have hr5 := (hk5.other _ _ _ _ (HN2.out true) (by decide) (by decide)).trans (HN2.out true)
      have s0 := cell_of hr5 0
      have t0 := cell_of hy5 0
      have v0 := frozen_of hy5 0
      have s1 := cell_of hr5 1
      have t1 := cell_of hy5 1
      have v1 := frozen_of hy5 1
      have s2 := cell_of hr5 2
      have t2 := cell_of hy5 2
      have v2 := frozen_of hy5 2
      have s3 := cell_of hr5 3
      have t3 := cell_of hy5 3
      have v3 := frozen_of hy5 3
      have s4 := cell_of hr5 4
      have t4 := cell_of hy5 4
      have v4 := frozen_of hy5 4
      have s5 := cell_of hr5 5
      have t5 := cell_of hy5 5
      have v5 := frozen_of hy5 5
      simp only [List.getElem?_toArray, List.getElem?_cons_succ, List.getElem?_cons_zero] at s0 t0 s1 t1 s2 t2 s3 t3 s4 t4 s5 t5
      have HM5 := Lib.hid hm5
      have K5 := Lib.hid (K2.out.trans ((Kept.of_below HBW.out HM2.out.choose_spec.choose_spec.2.2).trans hk5))
      have HY5 := Lib.hid hy5
      clear hm5 hk5 hx5 hy5 hr5
      go_wp2_with fail
      refine bodyPost_ret (results_cell_row rfl _ _ (w.heap.size + 1) _ _ _ _ rfl (store6 _ _ _ _ _ _ HY5.out) Tryz.underlying40 rfl infoRep) rfl ?_
      rw [HV.out.1, HV.out.2]
      exact ⟨rfl, mapAt_set6 HM5.out HY5.out (by decide) (by decide) _ _ _ _ _ _, kept_set6 K5.out (by omega) (by omega) _ _ _ _ _ _⟩
    | true =>
      by_cases hv : gv = old
      · have ho : (gv.toList == old.toList) = true := by rw [hv]; exact beq_self_eq_true _
        have HO := Lib.hid hv
        clear hv
        have HV := Lib.hid (keyed_vals HG.out false (show hit ⟨3, key, value, old⟩ (gv, true) = false by simp [hit, HO.out]) (.slice none 0 0))
        go_wp2_with fail
        refine bodyPost_ret (results_cell_row rfl _ _ (w.heap.size + 1) _ _ _ _ rfl (store6 _ _ _ _ _ _ (HY3.out false)) Tryz.underlying40 rfl infoRep) rfl ?_
        rw [HV.out.1, HV.out.2]
        have hbw : Below w2.heap.size w2 (w2.alloc (.cells #[.int .i64 0, .bool true, .bool false, .string gv, .int .i64 0, .slice none 0 0] 40)) := (Below.refl _ _).alloc (Nat.le_refl _) _
        exact ⟨rfl, mapAt_set6 (HM2.out.below hbw) (HY3.out false) (by decide) (by decide) _ _ _ _ _ _, kept_set6 (K2.out.trans (Kept.of_below hbw HM2.out.choose_spec.choose_spec.2.2)) (by omega) (by omega) _ _ _ _ _ _⟩
      · have ho : (gv.toList == old.toList) = false := by rw [beq_lists, decide_eq_false hv]
        have HO := Lib.hid hv
        clear hv
        have HV := Lib.hid (keyed_vals HG.out false (show hit ⟨3, key, value, old⟩ (gv, true) = false by simp [hit, HO.out]) (.slice none 0 0))
        go_wp2_with fail
        refine bodyPost_ret (results_cell_row rfl _ _ (w.heap.size + 1) _ _ _ _ rfl (store6 _ _ _ _ _ _ (HY3.out false)) Tryz.underlying40 rfl infoRep) rfl ?_
        rw [HV.out.1, HV.out.2]
        have hbw : Below w2.heap.size w2 (w2.alloc (.cells #[.int .i64 0, .bool true, .bool false, .string gv, .int .i64 0, .slice none 0 0] 40)) := (Below.refl _ _).alloc (Nat.le_refl _) _
        exact ⟨rfl, mapAt_set6 (HM2.out.below hbw) (HY3.out false) (by decide) (by decide) _ _ _ _ _ _, kept_set6 (K2.out.trans (Kept.of_below hbw HM2.out.choose_spec.choose_spec.2.2)) (by omega) (by omega) _ _ _ _ _ _⟩
  · cases gh with
    | false =>
      have HV := Lib.hid (keyed_vals HG.out false (show hit ⟨4, key, value, old⟩ (gv, false) = false by simp [hit]) (.slice none 0 0))
      go_wp2_with fail
      refine bodyPost_ret (results_cell_row rfl _ _ (w.heap.size + 1) _ _ _ _ rfl (store6 _ _ _ _ _ _ (HY3.out false)) Tryz.underlying40 rfl infoRep) rfl ?_
      rw [HV.out.1, HV.out.2]
      have hbw : Below w2.heap.size w2 (w2.alloc (.cells #[.int .i64 0, .bool false, .bool false, .string gv, .int .i64 0, .slice none 0 0] 40)) := (Below.refl _ _).alloc (Nat.le_refl _) _
      exact ⟨rfl, mapAt_set6 (HM2.out.below hbw) (HY3.out false) (by decide) (by decide) _ _ _ _ _ _, kept_set6 (K2.out.trans (Kept.of_below hbw HM2.out.choose_spec.choose_spec.2.2)) (by omega) (by omega) _ _ _ _ _ _⟩
    | true =>
      by_cases hv : gv = old
      · have ho : (gv.toList == old.toList) = true := by rw [hv]; exact beq_self_eq_true _
        have HO := Lib.hid hv
        clear hv
        have HV := Lib.hid (keyed_vals HG.out true (show hit ⟨4, key, value, old⟩ (gv, true) = true by simp [hit, HO.out]) (.slice none 0 0))
        go_wp2_with fail
        have hbw : Below w2.heap.size w2 (w2.alloc (.cells #[.int .i64 0, .bool true, .bool true, .string gv, .int .i64 0, .slice none 0 0] 40)) := (Below.refl _ _).alloc (Nat.le_refl _) _
        have HBW := Lib.hid hbw
        clear hbw
        refine (put_m (HM2.out.below HBW.out) (by omega) key value).mono ?_
        rintro e w5 ⟨rfl, hm5, hk5⟩
        have hx5 := (hk5.other _ _ _ _ (HX3.out true) (by decide) (by decide)).trans (HX3.out true)
        have hy5 := (hk5.other _ _ _ _ (HY3.out true) (by decide) (by decide)).trans (HY3.out true)
        have hr5 := (hk5.other _ _ _ _ (HN2.out true) (by decide) (by decide)).trans (HN2.out true)
        have s0 := cell_of hr5 0
        have t0 := cell_of hy5 0
        have v0 := frozen_of hy5 0
        have s1 := cell_of hr5 1
        have t1 := cell_of hy5 1
        have v1 := frozen_of hy5 1
        have s2 := cell_of hr5 2
        have t2 := cell_of hy5 2
        have v2 := frozen_of hy5 2
        have s3 := cell_of hr5 3
        have t3 := cell_of hy5 3
        have v3 := frozen_of hy5 3
        have s4 := cell_of hr5 4
        have t4 := cell_of hy5 4
        have v4 := frozen_of hy5 4
        have s5 := cell_of hr5 5
        have t5 := cell_of hy5 5
        have v5 := frozen_of hy5 5
        simp only [List.getElem?_toArray, List.getElem?_cons_succ, List.getElem?_cons_zero] at s0 t0 s1 t1 s2 t2 s3 t3 s4 t4 s5 t5
        have HM5 := Lib.hid hm5
        have K5 := Lib.hid (K2.out.trans ((Kept.of_below HBW.out HM2.out.choose_spec.choose_spec.2.2).trans hk5))
        have HY5 := Lib.hid hy5
        clear hm5 hk5 hx5 hy5 hr5
        go_wp2_with fail
        refine bodyPost_ret (results_cell_row rfl _ _ (w.heap.size + 1) _ _ _ _ rfl (store6 _ _ _ _ _ _ HY5.out) Tryz.underlying40 rfl infoRep) rfl ?_
        rw [HV.out.1, HV.out.2]
        exact ⟨rfl, mapAt_set6 HM5.out HY5.out (by decide) (by decide) _ _ _ _ _ _, kept_set6 K5.out (by omega) (by omega) _ _ _ _ _ _⟩
      · have ho : (gv.toList == old.toList) = false := by rw [beq_lists, decide_eq_false hv]
        have HO := Lib.hid hv
        clear hv
        have HV := Lib.hid (keyed_vals HG.out true (show hit ⟨4, key, value, old⟩ (gv, true) = true by simp [hit, HO.out]) (.slice none 0 0))
        go_wp2_with fail
        have hbw : Below w2.heap.size w2 (w2.alloc (.cells #[.int .i64 0, .bool true, .bool true, .string gv, .int .i64 0, .slice none 0 0] 40)) := (Below.refl _ _).alloc (Nat.le_refl _) _
        have HBW := Lib.hid hbw
        clear hbw
        refine (put_m (HM2.out.below HBW.out) (by omega) key value).mono ?_
        rintro e w5 ⟨rfl, hm5, hk5⟩
        have hx5 := (hk5.other _ _ _ _ (HX3.out true) (by decide) (by decide)).trans (HX3.out true)
        have hy5 := (hk5.other _ _ _ _ (HY3.out true) (by decide) (by decide)).trans (HY3.out true)
        have hr5 := (hk5.other _ _ _ _ (HN2.out true) (by decide) (by decide)).trans (HN2.out true)
        have s0 := cell_of hr5 0
        have t0 := cell_of hy5 0
        have v0 := frozen_of hy5 0
        have s1 := cell_of hr5 1
        have t1 := cell_of hy5 1
        have v1 := frozen_of hy5 1
        have s2 := cell_of hr5 2
        have t2 := cell_of hy5 2
        have v2 := frozen_of hy5 2
        have s3 := cell_of hr5 3
        have t3 := cell_of hy5 3
        have v3 := frozen_of hy5 3
        have s4 := cell_of hr5 4
        have t4 := cell_of hy5 4
        have v4 := frozen_of hy5 4
        have s5 := cell_of hr5 5
        have t5 := cell_of hy5 5
        have v5 := frozen_of hy5 5
        simp only [List.getElem?_toArray, List.getElem?_cons_succ, List.getElem?_cons_zero] at s0 t0 s1 t1 s2 t2 s3 t3 s4 t4 s5 t5
        have HM5 := Lib.hid hm5
        have K5 := Lib.hid (K2.out.trans ((Kept.of_below HBW.out HM2.out.choose_spec.choose_spec.2.2).trans hk5))
        have HY5 := Lib.hid hy5
        clear hm5 hk5 hx5 hy5 hr5
        go_wp2_with fail
        refine bodyPost_ret (results_cell_row rfl _ _ (w.heap.size + 1) _ _ _ _ rfl (store6 _ _ _ _ _ _ HY5.out) Tryz.underlying40 rfl infoRep) rfl ?_
        rw [HV.out.1, HV.out.2]
        exact ⟨rfl, mapAt_set6 HM5.out HY5.out (by decide) (by decide) _ _ _ _ _ _, kept_set6 K5.out (by omega) (by omega) _ _ _ _ _ _⟩
  · cases gh with
    | false =>
      have HV := Lib.hid (keyed_vals HG.out false (show hit ⟨5, key, value, old⟩ (gv, false) = false by simp [hit]) (.slice none 0 0))
      go_wp2_with fail
      refine bodyPost_ret (results_cell_row rfl _ _ (w.heap.size + 1) _ _ _ _ rfl (store6 _ _ _ _ _ _ (HY3.out false)) Tryz.underlying40 rfl infoRep) rfl ?_
      rw [HV.out.1, HV.out.2]
      have hbw : Below w2.heap.size w2 (w2.alloc (.cells #[.int .i64 0, .bool false, .bool false, .string gv, .int .i64 0, .slice none 0 0] 40)) := (Below.refl _ _).alloc (Nat.le_refl _) _
      exact ⟨rfl, mapAt_set6 (HM2.out.below hbw) (HY3.out false) (by decide) (by decide) _ _ _ _ _ _, kept_set6 (K2.out.trans (Kept.of_below hbw HM2.out.choose_spec.choose_spec.2.2)) (by omega) (by omega) _ _ _ _ _ _⟩
    | true =>
      by_cases hv : gv = old
      · have ho : (gv.toList == old.toList) = true := by rw [hv]; exact beq_self_eq_true _
        have HO := Lib.hid hv
        clear hv
        have HV := Lib.hid (keyed_vals HG.out true (show hit ⟨5, key, value, old⟩ (gv, true) = true by simp [hit, HO.out]) (.slice none 0 0))
        go_wp2_with fail
        have hbw : Below w2.heap.size w2 (w2.alloc (.cells #[.int .i64 0, .bool true, .bool true, .string gv, .int .i64 0, .slice none 0 0] 40)) := (Below.refl _ _).alloc (Nat.le_refl _) _
        have HBW := Lib.hid hbw
        clear hbw
        refine (put_m (HM2.out.below HBW.out) (by omega) key value).mono ?_
        rintro e w5 ⟨rfl, hm5, hk5⟩
        have hx5 := (hk5.other _ _ _ _ (HX3.out true) (by decide) (by decide)).trans (HX3.out true)
        have hy5 := (hk5.other _ _ _ _ (HY3.out true) (by decide) (by decide)).trans (HY3.out true)
        have hr5 := (hk5.other _ _ _ _ (HN2.out true) (by decide) (by decide)).trans (HN2.out true)
        have s0 := cell_of hr5 0
        have t0 := cell_of hy5 0
        have v0 := frozen_of hy5 0
        have s1 := cell_of hr5 1
        have t1 := cell_of hy5 1
        have v1 := frozen_of hy5 1
        have s2 := cell_of hr5 2
        have t2 := cell_of hy5 2
        have v2 := frozen_of hy5 2
        have s3 := cell_of hr5 3
        have t3 := cell_of hy5 3
        have v3 := frozen_of hy5 3
        have s4 := cell_of hr5 4
        have t4 := cell_of hy5 4
        have v4 := frozen_of hy5 4
        have s5 := cell_of hr5 5
        have t5 := cell_of hy5 5
        have v5 := frozen_of hy5 5
        simp only [List.getElem?_toArray, List.getElem?_cons_succ, List.getElem?_cons_zero] at s0 t0 s1 t1 s2 t2 s3 t3 s4 t4 s5 t5
        have HM5 := Lib.hid hm5
        have K5 := Lib.hid (K2.out.trans ((Kept.of_below HBW.out HM2.out.choose_spec.choose_spec.2.2).trans hk5))
        have HY5 := Lib.hid hy5
        clear hm5 hk5 hx5 hy5 hr5
        go_wp2_with fail
        refine bodyPost_ret (results_cell_row rfl _ _ (w.heap.size + 1) _ _ _ _ rfl (store6 _ _ _ _ _ _ HY5.out) Tryz.underlying40 rfl infoRep) rfl ?_
        rw [HV.out.1, HV.out.2]
        exact ⟨rfl, mapAt_set6 HM5.out HY5.out (by decide) (by decide) _ _ _ _ _ _, kept_set6 K5.out (by omega) (by omega) _ _ _ _ _ _⟩
      · have ho : (gv.toList == old.toList) = false := by rw [beq_lists, decide_eq_false hv]
        have HO := Lib.hid hv
        clear hv
        have HV := Lib.hid (keyed_vals HG.out false (show hit ⟨5, key, value, old⟩ (gv, true) = false by simp [hit, HO.out]) (.slice none 0 0))
        go_wp2_with fail
        refine bodyPost_ret (results_cell_row rfl _ _ (w.heap.size + 1) _ _ _ _ rfl (store6 _ _ _ _ _ _ (HY3.out false)) Tryz.underlying40 rfl infoRep) rfl ?_
        rw [HV.out.1, HV.out.2]
        have hbw : Below w2.heap.size w2 (w2.alloc (.cells #[.int .i64 0, .bool true, .bool false, .string gv, .int .i64 0, .slice none 0 0] 40)) := (Below.refl _ _).alloc (Nat.le_refl _) _
        exact ⟨rfl, mapAt_set6 (HM2.out.below hbw) (HY3.out false) (by decide) (by decide) _ _ _ _ _ _, kept_set6 (K2.out.trans (Kept.of_below hbw HM2.out.choose_spec.choose_spec.2.2)) (by omega) (by omega) _ _ _ _ _ _⟩
  · cases gh with
    | false =>
      have HV := Lib.hid (keyed_vals HG.out false (show hit ⟨6, key, value, old⟩ (gv, false) = false by simp [hit]) (.slice none 0 0))
      go_wp2_with fail
      refine bodyPost_ret (results_cell_row rfl _ _ (w.heap.size + 1) _ _ _ _ rfl (store6 _ _ _ _ _ _ (HY3.out false)) Tryz.underlying40 rfl infoRep) rfl ?_
      rw [HV.out.1, HV.out.2]
      have hbw : Below w2.heap.size w2 (w2.alloc (.cells #[.int .i64 0, .bool false, .bool false, .string gv, .int .i64 0, .slice none 0 0] 40)) := (Below.refl _ _).alloc (Nat.le_refl _) _
      exact ⟨rfl, mapAt_set6 (HM2.out.below hbw) (HY3.out false) (by decide) (by decide) _ _ _ _ _ _, kept_set6 (K2.out.trans (Kept.of_below hbw HM2.out.choose_spec.choose_spec.2.2)) (by omega) (by omega) _ _ _ _ _ _⟩
    | true =>
      by_cases hv : gv = old
      · have ho : (gv.toList == old.toList) = true := by rw [hv]; exact beq_self_eq_true _
        have HO := Lib.hid hv
        clear hv
        have HV := Lib.hid (keyed_vals HG.out true (show hit ⟨6, key, value, old⟩ (gv, true) = true by simp [hit, HO.out]) (.slice none 0 0))
        go_wp2_with fail
        have hbw : Below w2.heap.size w2 (w2.alloc (.cells #[.int .i64 0, .bool true, .bool true, .string gv, .int .i64 0, .slice none 0 0] 40)) := (Below.refl _ _).alloc (Nat.le_refl _) _
        have HBW := Lib.hid hbw
        clear hbw
        refine (del_m (HM2.out.below HBW.out) (by omega) key).mono ?_
        rintro e w5 ⟨rfl, hm5, hk5⟩
        have hx5 := (hk5.other _ _ _ _ (HX3.out true) (by decide) (by decide)).trans (HX3.out true)
        have hy5 := (hk5.other _ _ _ _ (HY3.out true) (by decide) (by decide)).trans (HY3.out true)
        have hr5 := (hk5.other _ _ _ _ (HN2.out true) (by decide) (by decide)).trans (HN2.out true)
        have s0 := cell_of hr5 0
        have t0 := cell_of hy5 0
        have v0 := frozen_of hy5 0
        have s1 := cell_of hr5 1
        have t1 := cell_of hy5 1
        have v1 := frozen_of hy5 1
        have s2 := cell_of hr5 2
        have t2 := cell_of hy5 2
        have v2 := frozen_of hy5 2
        have s3 := cell_of hr5 3
        have t3 := cell_of hy5 3
        have v3 := frozen_of hy5 3
        have s4 := cell_of hr5 4
        have t4 := cell_of hy5 4
        have v4 := frozen_of hy5 4
        have s5 := cell_of hr5 5
        have t5 := cell_of hy5 5
        have v5 := frozen_of hy5 5
        simp only [List.getElem?_toArray, List.getElem?_cons_succ, List.getElem?_cons_zero] at s0 t0 s1 t1 s2 t2 s3 t3 s4 t4 s5 t5
        have HM5 := Lib.hid hm5
        have K5 := Lib.hid (K2.out.trans ((Kept.of_below HBW.out HM2.out.choose_spec.choose_spec.2.2).trans hk5))
        have HY5 := Lib.hid hy5
        clear hm5 hk5 hx5 hy5 hr5
        go_wp2_with fail
        refine bodyPost_ret (results_cell_row rfl _ _ (w.heap.size + 1) _ _ _ _ rfl (store6 _ _ _ _ _ _ HY5.out) Tryz.underlying40 rfl infoRep) rfl ?_
        rw [HV.out.1, HV.out.2]
        exact ⟨rfl, mapAt_set6 HM5.out HY5.out (by decide) (by decide) _ _ _ _ _ _, kept_set6 K5.out (by omega) (by omega) _ _ _ _ _ _⟩
      · have ho : (gv.toList == old.toList) = false := by rw [beq_lists, decide_eq_false hv]
        have HO := Lib.hid hv
        clear hv
        have HV := Lib.hid (keyed_vals HG.out true (show hit ⟨6, key, value, old⟩ (gv, true) = true by simp [hit, HO.out]) (.slice none 0 0))
        go_wp2_with fail
        have hbw : Below w2.heap.size w2 (w2.alloc (.cells #[.int .i64 0, .bool true, .bool true, .string gv, .int .i64 0, .slice none 0 0] 40)) := (Below.refl _ _).alloc (Nat.le_refl _) _
        have HBW := Lib.hid hbw
        clear hbw
        refine (del_m (HM2.out.below HBW.out) (by omega) key).mono ?_
        rintro e w5 ⟨rfl, hm5, hk5⟩
        have hx5 := (hk5.other _ _ _ _ (HX3.out true) (by decide) (by decide)).trans (HX3.out true)
        have hy5 := (hk5.other _ _ _ _ (HY3.out true) (by decide) (by decide)).trans (HY3.out true)
        have hr5 := (hk5.other _ _ _ _ (HN2.out true) (by decide) (by decide)).trans (HN2.out true)
        have s0 := cell_of hr5 0
        have t0 := cell_of hy5 0
        have v0 := frozen_of hy5 0
        have s1 := cell_of hr5 1
        have t1 := cell_of hy5 1
        have v1 := frozen_of hy5 1
        have s2 := cell_of hr5 2
        have t2 := cell_of hy5 2
        have v2 := frozen_of hy5 2
        have s3 := cell_of hr5 3
        have t3 := cell_of hy5 3
        have v3 := frozen_of hy5 3
        have s4 := cell_of hr5 4
        have t4 := cell_of hy5 4
        have v4 := frozen_of hy5 4
        have s5 := cell_of hr5 5
        have t5 := cell_of hy5 5
        have v5 := frozen_of hy5 5
        simp only [List.getElem?_toArray, List.getElem?_cons_succ, List.getElem?_cons_zero] at s0 t0 s1 t1 s2 t2 s3 t3 s4 t4 s5 t5
        have HM5 := Lib.hid hm5
        have K5 := Lib.hid (K2.out.trans ((Kept.of_below HBW.out HM2.out.choose_spec.choose_spec.2.2).trans hk5))
        have HY5 := Lib.hid hy5
        clear hm5 hk5 hx5 hy5 hr5
        go_wp2_with fail
        refine bodyPost_ret (results_cell_row rfl _ _ (w.heap.size + 1) _ _ _ _ rfl (store6 _ _ _ _ _ _ HY5.out) Tryz.underlying40 rfl infoRep) rfl ?_
        rw [HV.out.1, HV.out.2]
        exact ⟨rfl, mapAt_set6 HM5.out HY5.out (by decide) (by decide) _ _ _ _ _ _, kept_set6 K5.out (by omega) (by omega) _ _ _ _ _ _⟩
  · cases gh with
    | false =>
      have HV := Lib.hid (keyed_vals HG.out false (show hit ⟨7, key, value, old⟩ (gv, false) = false by simp [hit]) (.slice none 0 0))
      go_wp2_with fail
      refine bodyPost_ret (results_cell_row rfl _ _ (w.heap.size + 1) _ _ _ _ rfl (store6 _ _ _ _ _ _ (HY3.out false)) Tryz.underlying40 rfl infoRep) rfl ?_
      rw [HV.out.1, HV.out.2]
      have hbw : Below w2.heap.size w2 (w2.alloc (.cells #[.int .i64 0, .bool false, .bool false, .string gv, .int .i64 0, .slice none 0 0] 40)) := (Below.refl _ _).alloc (Nat.le_refl _) _
      exact ⟨rfl, mapAt_set6 (HM2.out.below hbw) (HY3.out false) (by decide) (by decide) _ _ _ _ _ _, kept_set6 (K2.out.trans (Kept.of_below hbw HM2.out.choose_spec.choose_spec.2.2)) (by omega) (by omega) _ _ _ _ _ _⟩
    | true =>
      by_cases hv : gv = old
      · have ho : (gv.toList == old.toList) = true := by rw [hv]; exact beq_self_eq_true _
        have HO := Lib.hid hv
        clear hv
        have HV := Lib.hid (keyed_vals HG.out true (show hit ⟨7, key, value, old⟩ (gv, true) = true by simp [hit, HO.out]) (.slice none 0 0))
        go_wp2_with fail
        have hbw : Below w2.heap.size w2 (w2.alloc (.cells #[.int .i64 0, .bool true, .bool true, .string gv, .int .i64 0, .slice none 0 0] 40)) := (Below.refl _ _).alloc (Nat.le_refl _) _
        have HBW := Lib.hid hbw
        clear hbw
        refine (del_m (HM2.out.below HBW.out) (by omega) key).mono ?_
        rintro e w5 ⟨rfl, hm5, hk5⟩
        have hx5 := (hk5.other _ _ _ _ (HX3.out true) (by decide) (by decide)).trans (HX3.out true)
        have hy5 := (hk5.other _ _ _ _ (HY3.out true) (by decide) (by decide)).trans (HY3.out true)
        have hr5 := (hk5.other _ _ _ _ (HN2.out true) (by decide) (by decide)).trans (HN2.out true)
        have s0 := cell_of hr5 0
        have t0 := cell_of hy5 0
        have v0 := frozen_of hy5 0
        have s1 := cell_of hr5 1
        have t1 := cell_of hy5 1
        have v1 := frozen_of hy5 1
        have s2 := cell_of hr5 2
        have t2 := cell_of hy5 2
        have v2 := frozen_of hy5 2
        have s3 := cell_of hr5 3
        have t3 := cell_of hy5 3
        have v3 := frozen_of hy5 3
        have s4 := cell_of hr5 4
        have t4 := cell_of hy5 4
        have v4 := frozen_of hy5 4
        have s5 := cell_of hr5 5
        have t5 := cell_of hy5 5
        have v5 := frozen_of hy5 5
        simp only [List.getElem?_toArray, List.getElem?_cons_succ, List.getElem?_cons_zero] at s0 t0 s1 t1 s2 t2 s3 t3 s4 t4 s5 t5
        have HM5 := Lib.hid hm5
        have K5 := Lib.hid (K2.out.trans ((Kept.of_below HBW.out HM2.out.choose_spec.choose_spec.2.2).trans hk5))
        have HY5 := Lib.hid hy5
        clear hm5 hk5 hx5 hy5 hr5
        go_wp2_with fail
        refine bodyPost_ret (results_cell_row rfl _ _ (w.heap.size + 1) _ _ _ _ rfl (store6 _ _ _ _ _ _ HY5.out) Tryz.underlying40 rfl infoRep) rfl ?_
        rw [HV.out.1, HV.out.2]
        exact ⟨rfl, mapAt_set6 HM5.out HY5.out (by decide) (by decide) _ _ _ _ _ _, kept_set6 K5.out (by omega) (by omega) _ _ _ _ _ _⟩
      · have ho : (gv.toList == old.toList) = false := by rw [beq_lists, decide_eq_false hv]
        have HO := Lib.hid hv
        clear hv
        have HV := Lib.hid (keyed_vals HG.out false (show hit ⟨7, key, value, old⟩ (gv, true) = false by simp [hit, HO.out]) (.slice none 0 0))
        go_wp2_with fail
        refine bodyPost_ret (results_cell_row rfl _ _ (w.heap.size + 1) _ _ _ _ rfl (store6 _ _ _ _ _ _ (HY3.out false)) Tryz.underlying40 rfl infoRep) rfl ?_
        rw [HV.out.1, HV.out.2]
        have hbw : Below w2.heap.size w2 (w2.alloc (.cells #[.int .i64 0, .bool true, .bool false, .string gv, .int .i64 0, .slice none 0 0] 40)) := (Below.refl _ _).alloc (Nat.le_refl _) _
        exact ⟨rfl, mapAt_set6 (HM2.out.below hbw) (HY3.out false) (by decide) (by decide) _ _ _ _ _ _, kept_set6 (K2.out.trans (Kept.of_below hbw HM2.out.choose_spec.choose_spec.2.2)) (by omega) (by omega) _ _ _ _ _ _⟩
end Go.Proofs.YtdhgacionopghaaGreatDoor.Sp
