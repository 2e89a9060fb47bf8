/- dict: Copy. -/
import Derived.Outline
import Derived.Test.YtdenkbdagbmddaaDictLaw
import Derived.Test.YtdenkbdagbmddaaDictOrdP
import Derived.Test.YtdenkbdagbmddaaRoundReg
import Derived.Maps.AppendAt
namespace Go.Proofs.Ytdenkbdagbmddaa.DcO
open Go.RowKit Go.Shelf Dc DcM DcW DcI DcR DcL
set_option linter.unusedVariables false
set_option linter.unusedSimpArgs false
attribute [local go_sem] Oper.semAt_some
theorem infoT : (Try.prog.info? 9).map (fun i => (i.zero, i.size, i.bytes)) = some (some (.string ⟨#[]⟩), 1, 16) := by kernel_rfl
theorem r1 (w : World) (o : Obj) : ((w.alloc o).drew).heap[w.heap.size]? = some o := heap_alloc_new w o
theorem r2 (w : World) (o o' : Obj) : (((w.alloc o).alloc o').drew).heap[w.heap.size]? = some o := (Below.heap_alloc (w.alloc o) o' _ (by simp)).trans (heap_alloc_new w o)
theorem r3 (w : World) (o o' : Obj) : (((w.alloc o).alloc o').drew).heap[w.heap.size + 1]? = some o' := by
  have := heap_alloc_new (w.alloc o) o'
  rw [World.size_alloc] at this
  exact this
theorem owns_below' {w w' : World} {base : Nat} {e : TypeId} {size n : Nat} {v : Value} {xs : List Value} (h : w.ownsRow base e size v n xs) (hb : Below w.heap.size w w') : w'.ownsRow base e size v n xs := by
  refine ⟨h.1, ?_⟩
  rcases h.2 with hn | ⟨g, cap, cur, rfl, h1, hg, h2⟩
  · exact Or.inl hn
  · exact Or.inr ⟨g, cap, cur, rfl, h1, (hb.block g (Array.getElem?_eq_some_iff.1 hg).1).trans hg, h2⟩
theorem owns_grown {w w' : World} {base : Nat} {e : TypeId} {size n : Nat} {v u : Value} {xs : List Value} (h : w.ownsRow base e size v n xs) (hg : w.grownBy w' u.ownBlock) (hne : u.ownBlock = none ∨ u.ownBlock ≠ v.ownBlock) : w'.ownsRow base e size v n xs := by
  refine h.kept hg ?_
  rcases hne with hne | hne
  · rw [hne]
    cases hv : v.ownBlock with
    | none => exact Or.inl rfl
    | some k => exact Or.inr (by simp)
  · exact Or.inr (fun e => hne e.symm)
/-- append of one string to a row of the call's own, at a step of a region that draws its order. -/
theorem step_append_str {ops : Array Oper} {o : Oper} {a : Act} {w : World} {K : Act → World → Prop} {Q : Exit → Act → World → Prop} (hgd : o.guard = none) (s x : Operand)
    (ho : o.op = .call { callee := .builtin .append, args := #[s, x], argTypes := #[37, 37] }) (base : Nat) (v : Value) (n : Nat) (xs : List Value) (y : Value) (src : Nat) (hs : a.eval s = v)
    (hx : a.eval x = .slice (some ⟨src, 0, none⟩) 1 1) (hsrc : w.heap[src]? = some (.cells #[y] 9 (0, 0))) (hown : w.ownsRow base 9 1 v n xs) (hone : y.oneCell' = true) (hsmall : n < 1000000) (hbase : base ≤ w.heap.size)
    (h : ∀ A cap w', w'.ownsRow base 9 1 (.slice A (n + 1) cap) (n + 1) (xs ++ [y]) → w.grownBy w' v.ownBlock → ((Value.slice A (n + 1) cap).ownBlock = v.ownBlock ∨ (Value.slice A (n + 1) cap).ownBlock = some w.heap.size) → K (a.put o.dst (.slice A (n + 1) cap)) w') :
    if Region.wanted o (yielded ops a.tmps) = true then Oper.wp Try.prog o a w K Q else K (a.put o.dst undef) w := by
  obtain ⟨i0, hi, hz0, hz1, hz2⟩ := info_parts infoT
  have hw : Region.wanted o (yielded ops a.tmps) = true := by simp [Region.wanted, hgd]
  rw [if_pos hw]
  obtain ⟨v', w', hr, h2, h3, _, h5⟩ := run_append_own_at (P := Try.prog) w base 37 o.type 9 i0 (.string ⟨#[]⟩) 1 16 Try.underlying37 hi hz0 hz1 hz2 rfl (by decide) v n xs hown ⟨src, 0, none⟩ 1 1 [y] rfl (fun j u hj => by
    match j, hj with
    | 0, hj =>
      simp at hj
      subst hj
      have e : ((⟨src, 0, none⟩ : Addr).add 0) = ⟨src, 0, none⟩ := by simp [Addr.add]
      rw [e, cell_of hsrc]
      rfl) (by intro u hu; simp at hu; subst hu; exact hone) (by unfold maxLen; omega) (by omega) hbase
  obtain ⟨A', cap', rfl⟩ := owns_shape h2
  unfold Oper.wp execOp
  simp only [ho, resolve, invoke, builtin, Sem.run_bind, Sem.run_pure, Result.andThen_ok, List.map_toArray, List.map_cons, List.map_nil, hs, hx, hr]
  exact h A' cap' w' h2 h3 h5
/-- What two appends leave. -/
structure Two (W w9 : World) (n0 n : Nat) (ks vs ks' vs' : Value) (xs ys : List Value) : Prop where
  keeps : Keeps W w9 (fun k => some k = ks.ownBlock ∨ some k = vs.ownBlock)
  ok : w9.ownsRow n0 9 1 ks' (n + 1) xs
  ov : w9.ownsRow n0 9 1 vs' (n + 1) ys
  ne : ks'.ownBlock ≠ vs'.ownBlock
  fk : Fresh W ks.ownBlock ks'.ownBlock
  fv : Fresh W vs.ownBlock vs'.ownBlock
theorem own_some {w : World} {base : Nat} {e : TypeId} {size n : Nat} {v : Value} {xs : List Value} (h : w.ownsRow base e size v (n + 1) xs) : ∃ g, v.ownBlock = some g ∧ g < w.heap.size := by
  rcases h.2 with ⟨_, h0⟩ | ⟨g, cap, cur, rfl, _, hg, _⟩
  · cases h0
  · exact ⟨g, rfl, (Array.getElem?_eq_some_iff.1 hg).1⟩
theorem fin_two {W W1 w8 W2 w9 : World} {n0 n : Nat} {ks vs ks' vs' : Value} {xs ys xs' ys' : List Value} (hk : W.ownsRow n0 9 1 ks n xs) (hv : W.ownsRow n0 9 1 vs n ys) (hne : ks.ownBlock = none ∨ ks.ownBlock ≠ vs.ownBlock)
    (e1 : Below W.heap.size W W1) (gA : W1.grownBy w8 ks.ownBlock) (oA : w8.ownsRow n0 9 1 ks' (n + 1) xs') (bA : ks'.ownBlock = ks.ownBlock ∨ ks'.ownBlock = some W1.heap.size)
    (e2 : Below w8.heap.size w8 W2) (gB : W2.grownBy w9 vs.ownBlock) (oB : w9.ownsRow n0 9 1 vs' (n + 1) ys') (bB : vs'.ownBlock = vs.ownBlock ∨ vs'.ownBlock = some W2.heap.size) : Keeps W w9 (fun k => some k = ks.ownBlock ∨ some k = vs.ownBlock) ∧ Two W w9 n0 n ks vs ks' vs' xs' ys' := by
  obtain ⟨gk, hgk, hgkl⟩ := own_some oA
  obtain ⟨gv, hgv, hgvl⟩ := own_some oB
  have hvb : ∀ k, vs.ownBlock = some k → k < W.heap.size := fun k h => (hv.lt k h).2
  have hkb : ∀ k, ks.ownBlock = some k → k < W.heap.size := fun k h => (hk.lt k h).2
  have hkv : some gk ≠ vs.ownBlock := by
    intro e
    rcases bA with b | b
    · rcases hne with h | h
      · rw [h, hgk] at b; cases b
      · exact h (b.symm.trans (hgk.trans e))
    · rw [hgk] at b
      have := hvb gk e.symm
      injection b with b
      have := e1.size
      omega
  have hK : Keeps W w9 (fun k => some k = ks.ownBlock ∨ some k = vs.ownBlock) := by
    refine ⟨gB.os.trans (e2.os.trans (gA.os.trans e1.os)), gB.tape.trans (e2.tape.trans (gA.tape.trans e1.tape)), gB.output.trans (e2.output.trans (gA.output.trans e1.output)), Nat.le_trans e1.size (Nat.le_trans gA.size (Nat.le_trans e2.size gB.size)), fun k hk hn => ?_⟩
    have h1 := Nat.lt_of_lt_of_le hk e1.size
    have h2 := Nat.lt_of_lt_of_le h1 gA.size
    exact (gB.block k (Nat.lt_of_lt_of_le h2 e2.size) (fun e => hn (Or.inr e))).trans ((e2.block k h2).trans ((gA.block k h1 (fun e => hn (Or.inl e))).trans (e1.block k hk)))
  refine ⟨hK, hK, ?_, oB, ?_, ?_, ?_⟩
  · exact owns_grown (owns_below' oA e2) gB (by
      cases hvo : vs.ownBlock with
      | none => exact Or.inl rfl
      | some k => exact Or.inr (by rw [hgk, ← hvo]; exact fun e => hkv e.symm))
  · rw [hgk]
    rcases bB with b | b
    · rw [b]; exact hkv
    · rw [b]
      intro e
      injection e with e
      have := e2.size
      omega
  · rcases bA with b | b
    · exact Or.inl b
    · exact Or.inr ⟨_, b, e1.size⟩
  · rcases bB with b | b
    · exact Or.inl b
    · exact Or.inr ⟨_, b, Nat.le_trans e1.size (Nat.le_trans gA.size e2.size)⟩
theorem heap_set12 {w : World} {g : Nat} {a b c u v : Value} {T : TypeId} (h : w.heap[g]? = some (.cells #[a, b, c] T (0, 0))) : ((w.setCell ⟨g, 1, none⟩ u).setCell ⟨g, 2, none⟩ v).heap[g]? = some (.cells #[a, u, v] T (0, 0)) := heap_set2 (heap_set1 h)
/-- What holds in the loop. -/
def JC (w : World) (gc cb bm g : Nat) (pre : List Pr) (W : World) : Prop := (∃ kb vb, IsD W w.heap.size gc kb vb pre) ∧ Boxed W cb 26 (.pointer (some ⟨gc, 0, none⟩)) ∧ Boxed W bm 26 (.pointer (some ⟨g, 0, none⟩)) ∧ Below w.heap.size w W
theorem isD_cells {w : World} {n0 g : Nat} {kb vb : Option Nat} {l : List Pr} (h : IsD w n0 g kb vb l) {k : Nat} (hk : k = g ∨ kb = some k ∨ vb = some k) : ∃ o : Obj, w.heap[k]? = some o ∧ o.isCells = true := by
  obtain ⟨ks, vs, hh, _, h1, h2, e1, e2, _⟩ := h
  have row : ∀ (v : Value) (xs : List ByteArray), Row w n0 v xs → v.ownBlock = some k → ∃ o : Obj, w.heap[k]? = some o ∧ o.isCells = true := fun v xs hr hb => by
    obtain ⟨_, ⟨rfl, _⟩ | ⟨b, cap, cur, rfl, _, hg, _⟩⟩ := hr
    · cases hb
    · obtain rfl : b = k := by simpa [Value.ownBlock] using hb
      exact ⟨_, hg, rfl⟩
  rcases hk with rfl | e | e
  · exact ⟨_, hh, rfl⟩
  · exact row ks _ h1 (e1.trans e)
  · exact row vs _ h2 (e2.trans e)
theorem isD_put {w : World} {n0 g : Nat} {kb vb : Option Nat} {l : List Pr} (h : IsD w n0 g kb vb l) {D : Nat} {o o' : Obj} (hK : w.heap[D]? = some o) (hc : o.isCells = false) : IsD (w.putObj D o') n0 g kb vb l := by
  have same : ∀ k, (k = g ∨ kb = some k ∨ vb = some k) → (w.putObj D o').heap[k]? = w.heap[k]? := fun k hk => World.putObj_heap_other (fun e => by
    obtain ⟨o2, h2, h3⟩ := isD_cells h hk
    rw [e, hK] at h2
    cases h2
    rw [hc] at h3
    cases h3)
  exact h.kept (same g (Or.inl rfl)) (fun k e => same k (Or.inr (Or.inl e))) (fun k e => same k (Or.inr (Or.inr e)))
theorem own_isD (w : World) (gc : Nat) (B : Nat) : OwnFrom B (fun (pre : List Pr) W => ∃ kb vb, IsD W w.heap.size gc kb vb pre) := by
  rintro s W W' row ⟨kb, vb, h⟩ hg hr
  have same : ∀ k, (k = gc ∨ kb = some k ∨ vb = some k) → W'.heap[k]? = W.heap[k]? := fun k hk => by
    obtain ⟨o, ho, hc⟩ := isD_cells h hk
    refine hg.block k (Array.getElem?_eq_some_iff.1 ho).1 (fun e => ?_)
    obtain ⟨_, o', ho', hc'⟩ := hr k e.symm
    rw [ho] at ho'
    cases ho'
    rw [hc] at hc'
    cases hc'
  exact ⟨kb, vb, h.kept (same gc (Or.inl rfl)) (fun k e => same k (Or.inr (Or.inl e))) (fun k e => same k (Or.inr (Or.inr e)))⟩
theorem fixed_size {ks' ks : Value} {W : World} {k : Nat} (hf : Fresh W ks.ownBlock ks'.ownBlock) (h : some k ≠ ks.ownBlock) (hk : k < W.heap.size) : ks'.ownBlock ≠ some k := by
  rcases hf with e | ⟨j, e, hj⟩
  · rw [e]; exact fun e => h e.symm
  · rw [e]
    intro e
    cases e
    omega
theorem copy_end {w W w9 : World} {gc cb bm g B0 : Nat} {ks vs ks' vs' : Value} {pre : List Pr} {x : Pr} (fin : Keeps W w9 (fun k => some k = ks.ownBlock ∨ some k = vs.ownBlock) ∧ Two W w9 w.heap.size pre.length ks vs ks' vs' (strs (pre.map (·.1)) ++ [.string x.1]) (strs (pre.map (·.2)) ++ [.string x.2]))
    (hH : W.heap[gc]? = some (.cells #[.bool true, ks, vs] 39 (0, 0))) (hX : w9.heap[gc]? = some (.cells #[.bool true, ks, vs] 39 (0, 0))) (hg : gc < W.heap.size ∧ some gc ≠ ks.ownBlock ∧ some gc ≠ vs.ownBlock) (hg0 : w.heap.size ≤ gc)
    (hrk : W.ownsRow w.heap.size 9 1 ks pre.length (strs (pre.map (·.1)))) (hrv : W.ownsRow w.heap.size 9 1 vs pre.length (strs (pre.map (·.2))))
    (hbc : Boxed W cb 26 (.pointer (some ⟨gc, 0, none⟩))) (hbm : Boxed W bm 26 (.pointer (some ⟨g, 0, none⟩))) (h1 : cb ≠ gc) (h2 : bm ≠ gc) (hB : Below w.heap.size w W) :
    KeepsFrom B0 W ((w9.setCell ⟨gc, 1, none⟩ ks').setCell ⟨gc, 2, none⟩ vs') ∧ KpD w.heap.size bm W ((w9.setCell ⟨gc, 1, none⟩ ks').setCell ⟨gc, 2, none⟩ vs') ∧ JC w gc cb bm g (pre ++ [x]) ((w9.setCell ⟨gc, 1, none⟩ ks').setCell ⟨gc, 2, none⟩ vs') := by
  obtain ⟨_, hT⟩ := fin
  have K5 : Keeps W ((w9.setCell ⟨gc, 1, none⟩ ks').setCell ⟨gc, 2, none⟩ vs') (fun k => k = gc ∨ some k = ks.ownBlock ∨ some k = vs.ownBlock) :=
    ((Keeps.trans (S := fun k => k = gc ∨ some k = ks.ownBlock ∨ some k = vs.ownBlock) ⟨hT.keeps.os, hT.keeps.tape, hT.keeps.output, hT.keeps.size, fun k hk hn => hT.keeps.block k hk (fun e => hn (Or.inr e))⟩ (Keeps.set w9 ⟨gc, 1, none⟩ ks') (fun k _ e => Or.inl e)).trans (Keeps.set _ ⟨gc, 2, none⟩ vs') (fun k _ e => Or.inl e))
  have box : ∀ (b : Nat) (v : Value), Boxed W b 26 v → b ≠ gc → Boxed ((w9.setCell ⟨gc, 1, none⟩ ks').setCell ⟨gc, 2, none⟩ vs') b 26 v := fun b v hb hne =>
    (K5.block b hb.lt (fun e => by
      rcases e with e | e | e
      · exact hne e
      · exact hb.not_row (by decide) hrk e
      · exact hb.not_row (by decide) hrv e)).trans hb
  have hbel : Below w.heap.size W ((w9.setCell ⟨gc, 1, none⟩ ks').setCell ⟨gc, 2, none⟩ vs') := by
    refine ⟨K5.os, K5.tape, K5.output, K5.size, fun k hk => K5.block k (Nat.lt_of_lt_of_le hk hB.size) (fun e => ?_)⟩
    rcases e with e | e | e
    · omega
    · have := (hrk.lt k e.symm).1; omega
    · have := (hrv.lt k e.symm).1; omega
  have cells : ∀ (v : Value) (xs : List Value) (k : Nat), W.ownsRow w.heap.size 9 1 v pre.length xs → some k = v.ownBlock → ∀ o, W.heap[k]? = some o → o.isCells = true := fun v xs k hr hb o ho => by
    obtain ⟨_, ⟨rfl, _⟩ | ⟨b, cap, cur, rfl, _, hg, _⟩⟩ := hr
    · cases hb
    · obtain rfl : k = b := by simpa [Value.ownBlock] using hb
      rw [hg] at ho
      cases ho
      rfl
  refine ⟨⟨K5.size, fun k o _ hk hc => (K5.block k (Array.getElem?_eq_some_iff.1 hk).1 (fun e => ?_)).trans hk⟩, ⟨hbel, (box bm _ hbm h2).trans (show _ = _ from hbm).symm⟩, ⟨ks'.ownBlock, vs'.ownBlock, ks', vs', heap_set12 hX, hg0, ?_, ?_, rfl, rfl, Or.inr hT.ne⟩, box cb _ hbc h1, box bm _ hbm h2, hB.trans hbel⟩
  · have : o.isCells = true := by
      rcases e with e | e | e
      · subst e
        rw [hH] at hk
        cases hk
        rfl
      · exact cells _ _ _ hrk e _ hk
      · exact cells _ _ _ hrv e _ hk
    rw [hc] at this
    cases this
  · have hr := ownsRow_setCell_other (ownsRow_setCell_other hT.ok (a := ⟨gc, 1, none⟩) (fixed_size hT.fk hg.2.1 hg.1) ks') (a := ⟨gc, 2, none⟩) (fixed_size hT.fk hg.2.1 hg.1) vs'
    simpa [Row, strs] using hr
  · have hr := ownsRow_setCell_other (ownsRow_setCell_other hT.ov (a := ⟨gc, 1, none⟩) (fixed_size hT.fv hg.2.2 hg.1) ks') (a := ⟨gc, 2, none⟩) (fixed_size hT.fv hg.2.2 hg.1) vs'
    simpa [Row, strs] using hr
set_option maxRecDepth 100000 in
set_option maxHeartbeats 16000000 in
theorem copy_any (w : World) (b0 g : Nat) (kb vb : Option Nat) (l : List Pr) (hD : IsD w b0 g kb vb l) (hl : l.length < 1000000) :
    Calls Try.prog 13 #[.pointer (some ⟨g, 0, none⟩)] w fun e w' => ∃ gc kc vc, e = .returned (.pointer (some ⟨gc, 0, none⟩)) ∧ IsD w' w.heap.size gc kc vc l ∧ Below w.heap.size w w' := by
  refine (callsIn_wide (n := 5)).1 ?_
  have hro : Fence.wide.round = none := rfl
  have h36 : Fence.wide.fn 17 := trivial
  have h41 : Fence.wide.fn 23 := trivial
  have h27 : Fence.wide.fn 13 := trivial
  have k0 : w.cell? ⟨g, 0, none⟩ = some (.bool true) := by obtain ⟨ks, vs, c0, _⟩ := hD.cells; exact c0
  refine callsIn_of_wp_marks Try.func13 rfl h27 ?_ hro
  simp only [Try.ntmps13, List.size_toArray, List.length_cons, List.length_nil, Nat.reduceAdd, Nat.reduceSub, Array.replicate_succ, Array.replicate_zero, List.push_toArray, List.append_toArray, List.nil_append, List.cons_append]
  gi_wp2_with (gi_at_call 17; refine (all_in Fence.wide _ h36 hro _ _).mono ?_; rintro e w' ⟨rfl, rfl⟩)
  have bC := Boxed.new (w.alloc (.cells #[.bool true, .slice none 0 0, .slice none 0 0] 39)) 26 (.pointer (some ⟨w.heap.size, 0, none⟩))
  have bN := Boxed.new ((w.alloc (.cells #[.bool true, .slice none 0 0, .slice none 0 0] 39)).alloc (.cells #[.pointer (some ⟨w.heap.size, 0, none⟩)] 26)) 26 (.pointer (some ⟨g, 0, none⟩))
  simp only [World.size_alloc] at bC bN
  have bC2 := bC.alloc (.cells #[.pointer (some ⟨g, 0, none⟩)] 26)
  obtain ⟨W0, hW0⟩ : ∃ W0, W0 = ((w.alloc (.cells #[.bool true, .slice none 0 0, .slice none 0 0] 39)).alloc (.cells #[.pointer (some ⟨w.heap.size, 0, none⟩)] 26)).alloc (.cells #[.pointer (some ⟨g, 0, none⟩)] 26) := ⟨_, rfl⟩
  have hs0 : W0.heap.size = w.heap.size + 3 := by rw [hW0]; simp
  have hB0 : Below w.heap.size w W0 := by rw [hW0]; exact (((Below.refl _ w).alloc (Nat.le_refl _) _).alloc (by simp) _).alloc (by simp; omega) _
  have hI0 : ∃ kb vb, IsD W0 w.heap.size w.heap.size kb vb [] := by
    refine ⟨none, none, .slice none 0 0, .slice none 0 0, ?_, Nat.le_refl _, ⟨rfl, Or.inl ⟨rfl, rfl⟩⟩, ⟨rfl, Or.inl ⟨rfl, rfl⟩⟩, rfl, rfl, Or.inl rfl⟩
    rw [hW0]
    exact (Below.heap_alloc _ _ _ (by simp; omega)).trans ((Below.heap_alloc _ _ _ (by simp)).trans (alloc_new w _))
  rw [← hW0] at bC2 bN ⊢
  refine wpIn_rangeFunc_ownG hro (by omega) (gf := 23) (lb := #[.pointer (some ⟨w.heap.size + 1 + 1, 0, none⟩)]) rfl h41 (enters_of Try.func23 (by kernel_rfl) rfl)
    (all_stops Fence.wide _ h41 hro (by omega) (w.heap.size + 1 + 1) b0 w.heap.size g kb vb l hl W0 (by omega) hB0.size hD.lt_size (fun k e => (hD.kb_lt.1 k e).2.1) (fun k e => (hD.kb_lt.2 k e).2.1) bN.cell (hD.below hB0))
    KpD.trans (KpD.put hB0.size (by omega)) (Below.refl _ _) (fun _ => rfl)
    (JC w w.heap.size (w.heap.size + 1) (w.heap.size + 1 + 1) g)
    (fun _ _ _ => False)
    (OwnFrom.and (own_isD w w.heap.size _) (OwnFrom.and (Own.from (boxed_own (w.heap.size + 1) 26 (fun _ => .pointer (some ⟨w.heap.size, 0, none⟩))) _) (OwnFrom.and (Own.from (boxed_own (w.heap.size + 1 + 1) 26 (fun _ => .pointer (some ⟨g, 0, none⟩))) _) (ownFrom_below (Nat.le_refl _) (by omega)))))
    (fun c => ownFrom_pure _ _)
    ⟨hI0, bC2, bN, hB0⟩
    (fun x => { tmps := #[.pointer (some ⟨g, 0, none⟩), undef, .pointer none, .pointer (some ⟨w.heap.size + 1, 0, none⟩), .string x.1, .string x.2, .pointer (some ⟨g, 0, none⟩), .bool false, .pointer (some ⟨g, 0, none⟩), .pointer (some ⟨g, 0, none⟩), .pointer (some ⟨g, 0, none⟩), .bool true, .agg #[.bool true, .slice none 0 0, .slice none 0 0], .pointer (some ⟨w.heap.size, 0, none⟩), .pointer (some ⟨g, 0, none⟩), .func (.func 23) #[] #[.pointer (some ⟨w.heap.size + 1 + 1, 0, none⟩)], .string x.1, .string x.2, undef, undef, undef, undef, undef, undef, undef, undef, undef, undef, undef, undef, undef, undef, undef, undef, undef, undef, undef, undef, undef], defers := [] }) ?assign ?body ?done ?stop
  case assign =>
    intro l x W K hK
    simp only [encs]
    gi_wp2
    exact hK
  case stop => intro D c pre W _ _ h; exact h.elim
  case done =>
    rintro D xs W hDl rfl ⟨⟨kc, vc, hI⟩, hbc, _, hB⟩ hK
    have hc := hbc.cell
    gi_wp2
    refine ⟨by simp, .inl ⟨_, _, rfl, run_takeDeferred hK, ?_⟩⟩
    refine ⟨_, results_tmp rfl _ _ _, _, _, _, rfl, isD_put hI hK rfl, hB.trans (belowK_b (w := w) (Nat.le_refl _) W D _ _ (by omega) hK rfl rfl)⟩
  case body =>
    rintro lo pre ⟨x1, x2⟩ W ⟨⟨kc, vc, ks, vs, hH, hgc, hrk, hrv, hke, hve, hne⟩, hbc, hbn, hB⟩ hlt
    have hrk1 : W.ownsRow w.heap.size 9 1 ks pre.length (strs (pre.map (·.1))) := by
      have h := hrk
      dsimp only [Row] at h
      rwa [List.length_map] at h
    have hrv1 : W.ownsRow w.heap.size 9 1 vs pre.length (strs (pre.map (·.2))) := by
      have h := hrv
      dsimp only [Row] at h
      rwa [List.length_map] at h
    obtain ⟨Ak, ck, rfl⟩ := owns_shape hrk1
    obtain ⟨Av, cv, rfl⟩ := owns_shape hrv1
    gi_wp2
    have HK := Lib.hid hrk1
    have HV := Lib.hid hrv1
    have HH := Lib.hid hH
    have HB := Lib.hid hB
    have HBX := Lib.hid hbc
    have HBN := Lib.hid hbn
    have HN0 := Lib.hid hB.size
    have HCG := Lib.hid (show w.heap.size + 1 ≠ w.heap.size by omega)
    have hgl : w.heap.size < W.heap.size := (Array.getElem?_eq_some_iff.1 hH).1
    have notrow : ∀ (v : Value) (xs : List Value), W.ownsRow w.heap.size 9 1 v pre.length xs → some w.heap.size ≠ v.ownBlock := fun v xs hr e => by
      obtain ⟨_, ⟨rfl, _⟩ | ⟨b, cap, cur, rfl, _, hg, _⟩⟩ := hr
      · cases e
      · obtain rfl : w.heap.size = b := by simpa [Value.ownBlock] using e
        rw [hH] at hg
        cases hg
    have HGC := Lib.hid (And.intro hgl (And.intro (notrow _ _ hrk1) (notrow _ _ hrv1)))
    have HCB := Lib.hid (And.intro hbc.lt (And.intro (hbc.not_row (by decide) hrk1) (hbc.not_row (by decide) hrv1)))
    have HNE := Lib.hid (show (Value.slice Ak pre.length ck).ownBlock = none ∨ (Value.slice Ak pre.length ck).ownBlock ≠ (Value.slice Av pre.length cv).ownBlock by rw [hke, hve]; exact hne)
    have TS8 : ∀ w8 : World, (∀ j, j < W.heap.size → some j ≠ (Value.slice Ak pre.length ck).ownBlock → w8.heap[j]? = W.heap[j]?) → World.cell? w8 ⟨w.heap.size + 1, 0, none⟩ = some (.pointer (some ⟨w.heap.size, 0, none⟩)) ∧ (World.cell? w8 ⟨w.heap.size, 1, none⟩ = some (.slice Ak pre.length ck) ∧ World.cell? w8 ⟨w.heap.size, 2, none⟩ = some (.slice Av pre.length cv)) := fun w8 h =>
      ⟨cell_of ((h _ HCB.out.1 HCB.out.2.1).trans HBX.out) 0, cell_of ((h _ HGC.out.1 HGC.out.2.1).trans HH.out) 1, cell_of ((h _ HGC.out.1 HGC.out.2.1).trans HH.out) 2⟩
    have TSB : ∀ {w8 : World}, Below W.heap.size W w8 → World.cell? w8 ⟨w.heap.size + 1, 0, none⟩ = some (.pointer (some ⟨w.heap.size, 0, none⟩)) ∧ (World.cell? w8 ⟨w.heap.size, 1, none⟩ = some (.slice Ak pre.length ck) ∧ World.cell? w8 ⟨w.heap.size, 2, none⟩ = some (.slice Av pre.length cv)) := fun h => TS8 _ (fun j hj _ => h.block j hj)
    have hT0 := (TSB ((Below.refl W.heap.size W).drew)).1
    have hS0 := (TSB ((Below.refl W.heap.size W).drew)).2
    have HLT := Lib.hid hlt
    clear hH hgc hrk hrv hke hve hne hbc hbn hB hrk1 hrv1 notrow hB0 hI0 bC bC2 bN k0 hD
    refine Rr.region_round (fun w' => World.cell? w' ⟨w.heap.size + 1, 0, none⟩ = some (.pointer (some ⟨w.heap.size, 0, none⟩))) (fun w' => World.cell? w' ⟨w.heap.size, 1, none⟩ = some (.slice Ak pre.length ck) ∧ World.cell? w' ⟨w.heap.size, 2, none⟩ = some (.slice Av pre.length cv)) 18 (by kernel_rfl) (by kernel_rfl) (by rintro ⟨a, w, h⟩; exact h) ?_
    refine Rr.take_T 0 (v := ?v0) rfl (by kernel_rfl) (by kernel_rfl) (by kernel_rfl) (by kernel_rfl) (fun _ _ _ h => h) hT0 (fun _ => hS0) (Or.inl ⟨by rfl, ?y0⟩) ?z0
    case y0 =>
      intro wz hz
      try dsimp only at hz
      go_simp
      try with_reducible rfl
    case z0 =>
    try simp only [Act.put, List.setIfInBounds_toArray, List.set_cons_zero, List.set_cons_succ]
    refine Rr.take_T 1 (v := ?v1) rfl (by kernel_rfl) (by kernel_rfl) (by kernel_rfl) (by kernel_rfl) (fun _ _ _ h => h) hT0 (fun _ => hS0) (Or.inl ⟨by rfl, ?y1⟩) ?z1
    case y1 =>
      intro wz hz
      try dsimp only at hz
      go_simp
      try with_reducible rfl
    case z1 =>
    try simp only [Act.put, List.setIfInBounds_toArray, List.set_cons_zero, List.set_cons_succ]
    refine Rr.take_T 2 (v := ?v2) rfl (by kernel_rfl) (by kernel_rfl) (by kernel_rfl) (by kernel_rfl) (fun _ _ _ h => h) hT0 (fun _ => hS0) (Or.inl ⟨by rfl, ?y2⟩) ?z2
    case y2 =>
      intro wz hz
      try dsimp only at hz
      go_simp
      try with_reducible rfl
    case z2 =>
    try simp only [Act.put, List.setIfInBounds_toArray, List.set_cons_zero, List.set_cons_succ]
    refine Rr.take_T 3 (v := ?v3) rfl (by kernel_rfl) (by kernel_rfl) (by kernel_rfl) (by kernel_rfl) (fun _ _ _ h => h) hT0 (fun _ => hS0) (Or.inl ⟨by rfl, ?y3⟩) ?z3
    case y3 =>
      intro wz hz
      try dsimp only at hz
      go_simp
      try with_reducible rfl
    case z3 =>
    try simp only [Act.put, List.setIfInBounds_toArray, List.set_cons_zero, List.set_cons_succ]
    refine Rr.take_T 4 (v := ?v4) rfl (by kernel_rfl) (by kernel_rfl) (by kernel_rfl) (by kernel_rfl) (fun _ _ _ h => h) hT0 (fun _ => hS0) (Or.inl ⟨by rfl, ?y4⟩) ?z4
    case y4 =>
      intro wz hz
      try dsimp only at hz
      go_simp
      try with_reducible rfl
    case z4 =>
    try simp only [Act.put, List.setIfInBounds_toArray, List.set_cons_zero, List.set_cons_succ]
    refine Rr.take_S 5 (v := ?v5) rfl (by kernel_rfl) (by kernel_rfl) (by kernel_rfl) (by kernel_rfl) (by kernel_rfl) (by kernel_rfl) (fun _ _ _ h => h) hT0 hS0 (Or.inl ⟨by rfl, ?y5⟩) ?z5
    case y5 =>
      intro wz hz
      try dsimp only at hz
      obtain ⟨hz1, hz2⟩ := hz
      go_simp
      try with_reducible rfl
    case z5 =>
    try simp only [Act.put, List.setIfInBounds_toArray, List.set_cons_zero, List.set_cons_succ]
    refine Rr.take_T 6 (v := ?v6) rfl (by kernel_rfl) (by kernel_rfl) (by kernel_rfl) (by kernel_rfl) (fun _ _ _ h => h) hT0 (fun _ => hS0) (Or.inl ⟨by rfl, ?y6⟩) ?z6
    case y6 =>
      intro wz hz
      try dsimp only at hz
      go_simp
      try with_reducible rfl
    case z6 =>
    try simp only [Act.put, List.setIfInBounds_toArray, List.set_cons_zero, List.set_cons_succ]
    refine Rr.take_T 9 (v := ?v9) rfl (by kernel_rfl) (by kernel_rfl) (by kernel_rfl) (by kernel_rfl) (fun _ _ _ h => h) hT0 (fun _ => hS0) (Or.inl ⟨by rfl, ?y9⟩) ?z9
    case y9 =>
      intro wz hz
      try dsimp only at hz
      go_simp
      try with_reducible rfl
    case z9 =>
    try simp only [Act.put, List.setIfInBounds_toArray, List.set_cons_zero, List.set_cons_succ]
    refine Rr.take_T 10 (v := ?v10) rfl (by kernel_rfl) (by kernel_rfl) (by kernel_rfl) (by kernel_rfl) (fun _ _ _ h => h) hT0 (fun _ => hS0) (Or.inl ⟨by rfl, ?y10⟩) ?z10
    case y10 =>
      intro wz hz
      try dsimp only at hz
      go_simp
      try with_reducible rfl
    case z10 =>
    try simp only [Act.put, List.setIfInBounds_toArray, List.set_cons_zero, List.set_cons_succ]
    refine Rr.take_T 11 (v := ?v11) rfl (by kernel_rfl) (by kernel_rfl) (by kernel_rfl) (by kernel_rfl) (fun _ _ _ h => h) hT0 (fun _ => hS0) (Or.inl ⟨by rfl, ?y11⟩) ?z11
    case y11 =>
      intro wz hz
      try dsimp only at hz
      go_simp
      try with_reducible rfl
    case z11 =>
    try simp only [Act.put, List.setIfInBounds_toArray, List.set_cons_zero, List.set_cons_succ]
    refine Rr.take_S 12 (v := ?v12) rfl (by kernel_rfl) (by kernel_rfl) (by kernel_rfl) (by kernel_rfl) (by kernel_rfl) (by kernel_rfl) (fun _ _ _ h => h) hT0 hS0 (Or.inl ⟨by rfl, ?y12⟩) ?z12
    case y12 =>
      intro wz hz
      try dsimp only at hz
      obtain ⟨hz1, hz2⟩ := hz
      go_simp
      try with_reducible rfl
    case z12 =>
    try simp only [Act.put, List.setIfInBounds_toArray, List.set_cons_zero, List.set_cons_succ]
    refine Rr.take_T 13 (v := ?v13) rfl (by kernel_rfl) (by kernel_rfl) (by kernel_rfl) (by kernel_rfl) (fun _ _ _ h => h) hT0 (fun _ => hS0) (Or.inl ⟨by rfl, ?y13⟩) ?z13
    case y13 =>
      intro wz hz
      try dsimp only at hz
      go_simp
      try with_reducible rfl
    case z13 =>
    try simp only [Act.put, List.setIfInBounds_toArray, List.set_cons_zero, List.set_cons_succ]
    refine Rr.till_all [7, 14] (by kernel_rfl) (by simp) (List.forall_mem_cons.2 ⟨fun K hK => ?_, List.forall_mem_cons.2 ⟨fun K hK => ?_, fun i hi => by cases hi⟩⟩)
    · refine Rr.op_at _ rfl ?_
      go_simp
      refine hK _ _ (TSB (((Below.refl W.heap.size W).alloc (Nat.le_refl _) (.cells #[.string x1] 9)).drew)).1 (fun _ => (TSB (((Below.refl W.heap.size W).alloc (Nat.le_refl _) (.cells #[.string x1] 9)).drew)).2) ?_
      clear hK K
      try simp only [Act.put, List.setIfInBounds_toArray, List.set_cons_zero, List.set_cons_succ]
      refine Rr.till_all [8, 14] (by kernel_rfl) (by simp) (List.forall_mem_cons.2 ⟨fun K hK => ?_, List.forall_mem_cons.2 ⟨fun K hK => ?_, fun i hi => by cases hi⟩⟩)
      · refine Rr.op_at _ rfl ?_
        refine step_append_str (by rfl) (.tmp 23) (.tmp 25) (by rfl) w.heap.size (.slice Ak pre.length ck) pre.length (strs (pre.map (·.1))) (.string x1) W.heap.size (by rfl) (by rfl) (r1 _ _) (owns_below' HK.out (((Below.refl W.heap.size W).alloc (Nat.le_refl _) (.cells #[.string x1] 9)).drew)) rfl (by omega) (by have := (((Below.refl W.heap.size W).alloc (Nat.le_refl _) (.cells #[.string x1] 9)).drew).size; omega) ?_
        intro A8 c8 w8 ho8 hg8 hb8
        have E1 := Lib.hid (((Below.refl W.heap.size W).alloc (Nat.le_refl _) (.cells #[.string x1] 9)).drew)
        have HO8 := Lib.hid ho8
        have HG8 := Lib.hid hg8
        have HB8 := Lib.hid hb8
        have X8 := Lib.hid (fun j (hj : j < W.heap.size) (hne : some j ≠ (Value.slice Ak pre.length ck).ownBlock) => (hg8.block j (Nat.lt_of_lt_of_le hj (((Below.refl W.heap.size W).alloc (Nat.le_refl _) (.cells #[.string x1] 9)).drew).size) hne).trans ((((Below.refl W.heap.size W).alloc (Nat.le_refl _) (.cells #[.string x1] 9)).drew).block j hj))
        have HV8 := Lib.hid (owns_grown (owns_below' HV.out (((Below.refl W.heap.size W).alloc (Nat.le_refl _) (.cells #[.string x1] 9)).drew)) hg8 HNE.out)
        clear ho8 hg8 hb8
        refine hK _ _ (TS8 w8 X8.out).1 (fun _ => (TS8 w8 X8.out).2) ?_
        clear hK K
        try simp only [Act.put, List.setIfInBounds_toArray, List.set_cons_zero, List.set_cons_succ]
        refine Rr.till_all [14] (by kernel_rfl) (by simp) (List.forall_mem_cons.2 ⟨fun K hK => ?_, fun i hi => by cases hi⟩)
        refine Rr.op_at _ rfl ?_
        go_simp
        refine hK _ _ (TS8 _ (fun j hj hne => (Below.heap_alloc w8 _ j (Nat.lt_of_lt_of_le hj (Nat.le_trans E1.out.size HG8.out.size))).trans (X8.out j hj hne))).1 (fun _ => (TS8 _ (fun j hj hne => (Below.heap_alloc w8 _ j (Nat.lt_of_lt_of_le hj (Nat.le_trans E1.out.size HG8.out.size))).trans (X8.out j hj hne))).2) ?_
        clear hK K
        try simp only [Act.put, List.setIfInBounds_toArray, List.set_cons_zero, List.set_cons_succ]
        refine Rr.till_all [15] (by kernel_rfl) (by simp) (List.forall_mem_cons.2 ⟨fun K hK => ?_, fun i hi => by cases hi⟩)
        refine Rr.op_at _ rfl ?_
        refine step_append_str (by rfl) (.tmp 30) (.tmp 32) (by rfl) w.heap.size (.slice Av pre.length cv) pre.length (strs (pre.map (·.2))) (.string x2) w8.heap.size (by rfl) (by rfl) (heap_alloc_new w8 _) (owns_below' HV8.out ((Below.refl w8.heap.size w8).alloc (Nat.le_refl _) (.cells #[.string x2] 9))) rfl (by omega) (Nat.le_trans (Nat.le_trans HN0.out (Nat.le_trans E1.out.size HG8.out.size)) ((Below.refl w8.heap.size w8).alloc (Nat.le_refl _) (.cells #[.string x2] 9)).size) ?_
        intro A9 c9 w9 ho9 hg9 hb9
        have FIN := Lib.hid (fin_two HK.out HV.out HNE.out E1.out HG8.out HO8.out HB8.out ((Below.refl w8.heap.size w8).alloc (Nat.le_refl _) (.cells #[.string x2] 9)) hg9 ho9 hb9)
        have X9 := Lib.hid (show w9.heap[w.heap.size]? = _ from (FIN.out.1.block w.heap.size HGC.out.1 (fun e => by
          rcases e with e | e
          · exact HGC.out.2.1 e
          · exact HGC.out.2.2 e)).trans HH.out)
        have XB := Lib.hid (show w9.heap[(w.heap.size + 1)]? = _ from (FIN.out.1.block (w.heap.size + 1) HCB.out.1 (fun e => by
          rcases e with e | e
          · exact HCB.out.2.1 e
          · exact HCB.out.2.2 e)).trans HBX.out)
        clear ho9 hg9 hb9
        have t9 : World.cell? w9 ⟨(w.heap.size + 1), 0, none⟩ = some (.pointer (some ⟨w.heap.size, 0, none⟩)) := cell_of XB.out 0
        have s91 : World.cell? w9 ⟨w.heap.size, 1, none⟩ = some (.slice Ak pre.length ck) := cell_of X9.out 1
        have s92 : World.cell? w9 ⟨w.heap.size, 2, none⟩ = some (.slice Av pre.length cv) := cell_of X9.out 2
        have f91 : w9.frozen? ⟨w.heap.size, 1, none⟩ = false := frozen_of X9.out 1
        have f92 : w9.frozen? ⟨w.heap.size, 2, none⟩ = false := frozen_of X9.out 2
        refine hK _ _ t9 (fun _ => ⟨s91, s92⟩) ?_
        clear hK K
        try simp only [Act.put, List.setIfInBounds_toArray, List.set_cons_zero, List.set_cons_succ]
        refine Rr.take_T 16 (v := ?v16) rfl (by kernel_rfl) (by kernel_rfl) (by kernel_rfl) (by kernel_rfl) (fun _ _ _ h => h) t9 (fun _ => ⟨s91, s92⟩) (Or.inl ⟨by rfl, ?y16⟩) ?z16
        case y16 =>
          intro wz hz
          try dsimp only at hz
          go_simp
          try with_reducible rfl
        case z16 =>
        try simp only [Act.put, List.setIfInBounds_toArray, List.set_cons_zero, List.set_cons_succ]
        refine Rr.take_T 17 (v := ?v17) rfl (by kernel_rfl) (by kernel_rfl) (by kernel_rfl) (by kernel_rfl) (fun _ _ _ h => h) t9 (fun _ => ⟨s91, s92⟩) (Or.inl ⟨by rfl, ?y17⟩) ?z17
        case y17 =>
          intro wz hz
          try dsimp only at hz
          go_simp
          try with_reducible rfl
        case z17 =>
        try simp only [Act.put, List.setIfInBounds_toArray, List.set_cons_zero, List.set_cons_succ]
        refine Rr.till_all [18] (by kernel_rfl) (by simp) (List.forall_mem_cons.2 ⟨fun K hK => ?_, fun i hi => by cases hi⟩)
        refine Rr.op_at _ rfl ?_
        go_simp
        have t10 : World.cell? (w9.setCell ⟨w.heap.size, 1, none⟩ (.slice A8 (pre.length + 1) c8)) ⟨(w.heap.size + 1), 0, none⟩ = some (.pointer (some ⟨w.heap.size, 0, none⟩)) := (World.cell?_of_block (Below.heap_setCell w9 ⟨w.heap.size, 1, none⟩ _ (w.heap.size + 1) (by exact HCG.out))).trans t9
        refine hK _ _ t10 (fun h => absurd h (by decide)) ?_
        clear hK K
        try simp only [Act.put, List.setIfInBounds_toArray, List.set_cons_zero, List.set_cons_succ]
        refine Rr.take_T 19 (v := ?v19) rfl (by kernel_rfl) (by kernel_rfl) (by kernel_rfl) (by kernel_rfl) (fun _ _ _ h => h) t10 (fun h => absurd h (by decide)) (Or.inl ⟨by rfl, ?y19⟩) ?z19
        case y19 =>
          intro wz hz
          try dsimp only at hz
          go_simp
          try with_reducible rfl
        case z19 =>
        try simp only [Act.put, List.setIfInBounds_toArray, List.set_cons_zero, List.set_cons_succ]
        refine Rr.take_T 20 (v := ?v20) rfl (by kernel_rfl) (by kernel_rfl) (by kernel_rfl) (by kernel_rfl) (fun _ _ _ h => h) t10 (fun h => absurd h (by decide)) (Or.inl ⟨by rfl, ?y20⟩) ?z20
        case y20 =>
          intro wz hz
          try dsimp only at hz
          go_simp
          try with_reducible rfl
        case z20 =>
        try simp only [Act.put, List.setIfInBounds_toArray, List.set_cons_zero, List.set_cons_succ]
        refine Rr.till_all [21] (by kernel_rfl) (by simp) (List.forall_mem_cons.2 ⟨fun K hK => ?_, fun i hi => by cases hi⟩)
        have X10 := Lib.hid (heap_set1 X9.out (u := .slice A8 (pre.length + 1) c8))
        have s102 : World.cell? (w9.setCell ⟨w.heap.size, 1, none⟩ (.slice A8 (pre.length + 1) c8)) ⟨w.heap.size, 2, none⟩ = some (.slice Av pre.length cv) := cell_of X10.out 2
        have f102 : (w9.setCell ⟨w.heap.size, 1, none⟩ (.slice A8 (pre.length + 1) c8)).frozen? ⟨w.heap.size, 2, none⟩ = false := frozen_of X10.out 2
        refine Rr.op_at _ rfl ?_
        go_simp
        have t11 : World.cell? ((w9.setCell ⟨w.heap.size, 1, none⟩ (.slice A8 (pre.length + 1) c8)).setCell ⟨w.heap.size, 2, none⟩ (.slice A9 (pre.length + 1) c9)) ⟨(w.heap.size + 1), 0, none⟩ = some (.pointer (some ⟨w.heap.size, 0, none⟩)) := (World.cell?_of_block (Below.heap_setCell _ ⟨w.heap.size, 2, none⟩ _ (w.heap.size + 1) (by exact HCG.out))).trans t10
        refine hK _ _ t11 (fun h => absurd h (by decide)) ?_
        clear hK K
        refine Rr.till_done (by kernel_rfl) ?_ _
        exact copy_end FIN.out HH.out X9.out HGC.out (Nat.le_refl _) HK.out HV.out HBX.out HBN.out HCG.out (by omega) HB.out
      · refine Rr.op_at _ rfl ?_
        go_simp
        refine hK _ _ (TSB ((((Below.refl W.heap.size W).alloc (Nat.le_refl _) (.cells #[.string x1] 9)).alloc (by simp) (.cells #[.string x2] 9)).drew)).1 (fun _ => (TSB ((((Below.refl W.heap.size W).alloc (Nat.le_refl _) (.cells #[.string x1] 9)).alloc (by simp) (.cells #[.string x2] 9)).drew)).2) ?_
        clear hK K
        try simp only [Act.put, List.setIfInBounds_toArray, List.set_cons_zero, List.set_cons_succ]
        refine Rr.till_all [8] (by kernel_rfl) (by simp) (List.forall_mem_cons.2 ⟨fun K hK => ?_, fun i hi => by cases hi⟩)
        refine Rr.op_at _ rfl ?_
        refine step_append_str (by rfl) (.tmp 23) (.tmp 25) (by rfl) w.heap.size (.slice Ak pre.length ck) pre.length (strs (pre.map (·.1))) (.string x1) W.heap.size (by rfl) (by rfl) (r2 _ _ _) (owns_below' HK.out ((((Below.refl W.heap.size W).alloc (Nat.le_refl _) (.cells #[.string x1] 9)).alloc (by simp) (.cells #[.string x2] 9)).drew)) rfl (by omega) (by have := ((((Below.refl W.heap.size W).alloc (Nat.le_refl _) (.cells #[.string x1] 9)).alloc (by simp) (.cells #[.string x2] 9)).drew).size; omega) ?_
        intro A8 c8 w8 ho8 hg8 hb8
        have E1 := Lib.hid ((((Below.refl W.heap.size W).alloc (Nat.le_refl _) (.cells #[.string x1] 9)).alloc (by simp) (.cells #[.string x2] 9)).drew)
        have HO8 := Lib.hid ho8
        have HG8 := Lib.hid hg8
        have HB8 := Lib.hid hb8
        have X8 := Lib.hid (fun j (hj : j < W.heap.size) (hne : some j ≠ (Value.slice Ak pre.length ck).ownBlock) => (hg8.block j (Nat.lt_of_lt_of_le hj ((((Below.refl W.heap.size W).alloc (Nat.le_refl _) (.cells #[.string x1] 9)).alloc (by simp) (.cells #[.string x2] 9)).drew).size) hne).trans (((((Below.refl W.heap.size W).alloc (Nat.le_refl _) (.cells #[.string x1] 9)).alloc (by simp) (.cells #[.string x2] 9)).drew).block j hj))
        have HV8 := Lib.hid (owns_grown (owns_below' HV.out ((((Below.refl W.heap.size W).alloc (Nat.le_refl _) (.cells #[.string x1] 9)).alloc (by simp) (.cells #[.string x2] 9)).drew)) hg8 HNE.out)
        clear ho8 hg8 hb8
        refine hK _ _ (TS8 w8 X8.out).1 (fun _ => (TS8 w8 X8.out).2) ?_
        clear hK K
        try simp only [Act.put, List.setIfInBounds_toArray, List.set_cons_zero, List.set_cons_succ]
        refine Rr.till_all [15] (by kernel_rfl) (by simp) (List.forall_mem_cons.2 ⟨fun K hK => ?_, fun i hi => by cases hi⟩)
        refine Rr.op_at _ rfl ?_
        refine step_append_str (by rfl) (.tmp 30) (.tmp 32) (by rfl) w.heap.size (.slice Av pre.length cv) pre.length (strs (pre.map (·.2))) (.string x2) (W.heap.size + 1) (by rfl) (by rfl) ((HG8.out.block _ (by simp) (fun e => by have := HK.out.lt _ e.symm; omega)).trans (r3 _ _ _)) (owns_below' HV8.out (Below.refl w8.heap.size w8)) rfl (by omega) (Nat.le_trans (Nat.le_trans HN0.out (Nat.le_trans E1.out.size HG8.out.size)) (Below.refl w8.heap.size w8).size) ?_
        intro A9 c9 w9 ho9 hg9 hb9
        have FIN := Lib.hid (fin_two HK.out HV.out HNE.out E1.out HG8.out HO8.out HB8.out (Below.refl w8.heap.size w8) hg9 ho9 hb9)
        have X9 := Lib.hid (show w9.heap[w.heap.size]? = _ from (FIN.out.1.block w.heap.size HGC.out.1 (fun e => by
          rcases e with e | e
          · exact HGC.out.2.1 e
          · exact HGC.out.2.2 e)).trans HH.out)
        have XB := Lib.hid (show w9.heap[(w.heap.size + 1)]? = _ from (FIN.out.1.block (w.heap.size + 1) HCB.out.1 (fun e => by
          rcases e with e | e
          · exact HCB.out.2.1 e
          · exact HCB.out.2.2 e)).trans HBX.out)
        clear ho9 hg9 hb9
        have t9 : World.cell? w9 ⟨(w.heap.size + 1), 0, none⟩ = some (.pointer (some ⟨w.heap.size, 0, none⟩)) := cell_of XB.out 0
        have s91 : World.cell? w9 ⟨w.heap.size, 1, none⟩ = some (.slice Ak pre.length ck) := cell_of X9.out 1
        have s92 : World.cell? w9 ⟨w.heap.size, 2, none⟩ = some (.slice Av pre.length cv) := cell_of X9.out 2
        have f91 : w9.frozen? ⟨w.heap.size, 1, none⟩ = false := frozen_of X9.out 1
        have f92 : w9.frozen? ⟨w.heap.size, 2, none⟩ = false := frozen_of X9.out 2
        refine hK _ _ t9 (fun _ => ⟨s91, s92⟩) ?_
        clear hK K
        try simp only [Act.put, List.setIfInBounds_toArray, List.set_cons_zero, List.set_cons_succ]
        refine Rr.take_T 16 (v := ?v16) rfl (by kernel_rfl) (by kernel_rfl) (by kernel_rfl) (by kernel_rfl) (fun _ _ _ h => h) t9 (fun _ => ⟨s91, s92⟩) (Or.inl ⟨by rfl, ?y16⟩) ?z16
        case y16 =>
          intro wz hz
          try dsimp only at hz
          go_simp
          try with_reducible rfl
        case z16 =>
        try simp only [Act.put, List.setIfInBounds_toArray, List.set_cons_zero, List.set_cons_succ]
        refine Rr.take_T 17 (v := ?v17) rfl (by kernel_rfl) (by kernel_rfl) (by kernel_rfl) (by kernel_rfl) (fun _ _ _ h => h) t9 (fun _ => ⟨s91, s92⟩) (Or.inl ⟨by rfl, ?y17⟩) ?z17
        case y17 =>
          intro wz hz
          try dsimp only at hz
          go_simp
          try with_reducible rfl
        case z17 =>
        try simp only [Act.put, List.setIfInBounds_toArray, List.set_cons_zero, List.set_cons_succ]
        refine Rr.till_all [18] (by kernel_rfl) (by simp) (List.forall_mem_cons.2 ⟨fun K hK => ?_, fun i hi => by cases hi⟩)
        refine Rr.op_at _ rfl ?_
        go_simp
        have t10 : World.cell? (w9.setCell ⟨w.heap.size, 1, none⟩ (.slice A8 (pre.length + 1) c8)) ⟨(w.heap.size + 1), 0, none⟩ = some (.pointer (some ⟨w.heap.size, 0, none⟩)) := (World.cell?_of_block (Below.heap_setCell w9 ⟨w.heap.size, 1, none⟩ _ (w.heap.size + 1) (by exact HCG.out))).trans t9
        refine hK _ _ t10 (fun h => absurd h (by decide)) ?_
        clear hK K
        try simp only [Act.put, List.setIfInBounds_toArray, List.set_cons_zero, List.set_cons_succ]
        refine Rr.take_T 19 (v := ?v19) rfl (by kernel_rfl) (by kernel_rfl) (by kernel_rfl) (by kernel_rfl) (fun _ _ _ h => h) t10 (fun h => absurd h (by decide)) (Or.inl ⟨by rfl, ?y19⟩) ?z19
        case y19 =>
          intro wz hz
          try dsimp only at hz
          go_simp
          try with_reducible rfl
        case z19 =>
        try simp only [Act.put, List.setIfInBounds_toArray, List.set_cons_zero, List.set_cons_succ]
        refine Rr.take_T 20 (v := ?v20) rfl (by kernel_rfl) (by kernel_rfl) (by kernel_rfl) (by kernel_rfl) (fun _ _ _ h => h) t10 (fun h => absurd h (by decide)) (Or.inl ⟨by rfl, ?y20⟩) ?z20
        case y20 =>
          intro wz hz
          try dsimp only at hz
          go_simp
          try with_reducible rfl
        case z20 =>
        try simp only [Act.put, List.setIfInBounds_toArray, List.set_cons_zero, List.set_cons_succ]
        refine Rr.till_all [21] (by kernel_rfl) (by simp) (List.forall_mem_cons.2 ⟨fun K hK => ?_, fun i hi => by cases hi⟩)
        have X10 := Lib.hid (heap_set1 X9.out (u := .slice A8 (pre.length + 1) c8))
        have s102 : World.cell? (w9.setCell ⟨w.heap.size, 1, none⟩ (.slice A8 (pre.length + 1) c8)) ⟨w.heap.size, 2, none⟩ = some (.slice Av pre.length cv) := cell_of X10.out 2
        have f102 : (w9.setCell ⟨w.heap.size, 1, none⟩ (.slice A8 (pre.length + 1) c8)).frozen? ⟨w.heap.size, 2, none⟩ = false := frozen_of X10.out 2
        refine Rr.op_at _ rfl ?_
        go_simp
        have t11 : World.cell? ((w9.setCell ⟨w.heap.size, 1, none⟩ (.slice A8 (pre.length + 1) c8)).setCell ⟨w.heap.size, 2, none⟩ (.slice A9 (pre.length + 1) c9)) ⟨(w.heap.size + 1), 0, none⟩ = some (.pointer (some ⟨w.heap.size, 0, none⟩)) := (World.cell?_of_block (Below.heap_setCell _ ⟨w.heap.size, 2, none⟩ _ (w.heap.size + 1) (by exact HCG.out))).trans t10
        refine hK _ _ t11 (fun h => absurd h (by decide)) ?_
        clear hK K
        refine Rr.till_done (by kernel_rfl) ?_ _
        exact copy_end FIN.out HH.out X9.out HGC.out (Nat.le_refl _) HK.out HV.out HBX.out HBN.out HCG.out (by omega) HB.out
    · refine Rr.op_at _ rfl ?_
      go_simp
      refine hK _ _ (TSB (((Below.refl W.heap.size W).alloc (Nat.le_refl _) (.cells #[.string x2] 9)).drew)).1 (fun _ => (TSB (((Below.refl W.heap.size W).alloc (Nat.le_refl _) (.cells #[.string x2] 9)).drew)).2) ?_
      clear hK K
      try simp only [Act.put, List.setIfInBounds_toArray, List.set_cons_zero, List.set_cons_succ]
      refine Rr.till_all [7] (by kernel_rfl) (by simp) (List.forall_mem_cons.2 ⟨fun K hK => ?_, fun i hi => by cases hi⟩)
      refine Rr.op_at _ rfl ?_
      go_simp
      refine hK _ _ (TSB ((((Below.refl W.heap.size W).alloc (Nat.le_refl _) (.cells #[.string x2] 9)).alloc (by simp) (.cells #[.string x1] 9)).drew)).1 (fun _ => (TSB ((((Below.refl W.heap.size W).alloc (Nat.le_refl _) (.cells #[.string x2] 9)).alloc (by simp) (.cells #[.string x1] 9)).drew)).2) ?_
      clear hK K
      try simp only [Act.put, List.setIfInBounds_toArray, List.set_cons_zero, List.set_cons_succ]
      refine Rr.till_all [8] (by kernel_rfl) (by simp) (List.forall_mem_cons.2 ⟨fun K hK => ?_, fun i hi => by cases hi⟩)
      refine Rr.op_at _ rfl ?_
      refine step_append_str (by rfl) (.tmp 23) (.tmp 25) (by rfl) w.heap.size (.slice Ak pre.length ck) pre.length (strs (pre.map (·.1))) (.string x1) (W.heap.size + 1) (by rfl) (by rfl) (r3 _ _ _) (owns_below' HK.out ((((Below.refl W.heap.size W).alloc (Nat.le_refl _) (.cells #[.string x2] 9)).alloc (by simp) (.cells #[.string x1] 9)).drew)) rfl (by omega) (by have := ((((Below.refl W.heap.size W).alloc (Nat.le_refl _) (.cells #[.string x2] 9)).alloc (by simp) (.cells #[.string x1] 9)).drew).size; omega) ?_
      intro A8 c8 w8 ho8 hg8 hb8
      have E1 := Lib.hid ((((Below.refl W.heap.size W).alloc (Nat.le_refl _) (.cells #[.string x2] 9)).alloc (by simp) (.cells #[.string x1] 9)).drew)
      have HO8 := Lib.hid ho8
      have HG8 := Lib.hid hg8
      have HB8 := Lib.hid hb8
      have X8 := Lib.hid (fun j (hj : j < W.heap.size) (hne : some j ≠ (Value.slice Ak pre.length ck).ownBlock) => (hg8.block j (Nat.lt_of_lt_of_le hj ((((Below.refl W.heap.size W).alloc (Nat.le_refl _) (.cells #[.string x2] 9)).alloc (by simp) (.cells #[.string x1] 9)).drew).size) hne).trans (((((Below.refl W.heap.size W).alloc (Nat.le_refl _) (.cells #[.string x2] 9)).alloc (by simp) (.cells #[.string x1] 9)).drew).block j hj))
      have HV8 := Lib.hid (owns_grown (owns_below' HV.out ((((Below.refl W.heap.size W).alloc (Nat.le_refl _) (.cells #[.string x2] 9)).alloc (by simp) (.cells #[.string x1] 9)).drew)) hg8 HNE.out)
      clear ho8 hg8 hb8
      refine hK _ _ (TS8 w8 X8.out).1 (fun _ => (TS8 w8 X8.out).2) ?_
      clear hK K
      try simp only [Act.put, List.setIfInBounds_toArray, List.set_cons_zero, List.set_cons_succ]
      refine Rr.till_all [15] (by kernel_rfl) (by simp) (List.forall_mem_cons.2 ⟨fun K hK => ?_, fun i hi => by cases hi⟩)
      refine Rr.op_at _ rfl ?_
      refine step_append_str (by rfl) (.tmp 30) (.tmp 32) (by rfl) w.heap.size (.slice Av pre.length cv) pre.length (strs (pre.map (·.2))) (.string x2) W.heap.size (by rfl) (by rfl) ((HG8.out.block _ (by simp; omega) (fun e => by have := HK.out.lt _ e.symm; omega)).trans (r2 _ _ _)) (owns_below' HV8.out (Below.refl w8.heap.size w8)) rfl (by omega) (Nat.le_trans (Nat.le_trans HN0.out (Nat.le_trans E1.out.size HG8.out.size)) (Below.refl w8.heap.size w8).size) ?_
      intro A9 c9 w9 ho9 hg9 hb9
      have FIN := Lib.hid (fin_two HK.out HV.out HNE.out E1.out HG8.out HO8.out HB8.out (Below.refl w8.heap.size w8) hg9 ho9 hb9)
      have X9 := Lib.hid (show w9.heap[w.heap.size]? = _ from (FIN.out.1.block w.heap.size HGC.out.1 (fun e => by
        rcases e with e | e
        · exact HGC.out.2.1 e
        · exact HGC.out.2.2 e)).trans HH.out)
      have XB := Lib.hid (show w9.heap[(w.heap.size + 1)]? = _ from (FIN.out.1.block (w.heap.size + 1) HCB.out.1 (fun e => by
        rcases e with e | e
        · exact HCB.out.2.1 e
        · exact HCB.out.2.2 e)).trans HBX.out)
      clear ho9 hg9 hb9
      have t9 : World.cell? w9 ⟨(w.heap.size + 1), 0, none⟩ = some (.pointer (some ⟨w.heap.size, 0, none⟩)) := cell_of XB.out 0
      have s91 : World.cell? w9 ⟨w.heap.size, 1, none⟩ = some (.slice Ak pre.length ck) := cell_of X9.out 1
      have s92 : World.cell? w9 ⟨w.heap.size, 2, none⟩ = some (.slice Av pre.length cv) := cell_of X9.out 2
      have f91 : w9.frozen? ⟨w.heap.size, 1, none⟩ = false := frozen_of X9.out 1
      have f92 : w9.frozen? ⟨w.heap.size, 2, none⟩ = false := frozen_of X9.out 2
      refine hK _ _ t9 (fun _ => ⟨s91, s92⟩) ?_
      clear hK K
      try simp only [Act.put, List.setIfInBounds_toArray, List.set_cons_zero, List.set_cons_succ]
      refine Rr.take_T 16 (v := ?v16) rfl (by kernel_rfl) (by kernel_rfl) (by kernel_rfl) (by kernel_rfl) (fun _ _ _ h => h) t9 (fun _ => ⟨s91, s92⟩) (Or.inl ⟨by rfl, ?y16⟩) ?z16
      case y16 =>
        intro wz hz
        try dsimp only at hz
        go_simp
        try with_reducible rfl
      case z16 =>
      try simp only [Act.put, List.setIfInBounds_toArray, List.set_cons_zero, List.set_cons_succ]
      refine Rr.take_T 17 (v := ?v17) rfl (by kernel_rfl) (by kernel_rfl) (by kernel_rfl) (by kernel_rfl) (fun _ _ _ h => h) t9 (fun _ => ⟨s91, s92⟩) (Or.inl ⟨by rfl, ?y17⟩) ?z17
      case y17 =>
        intro wz hz
        try dsimp only at hz
        go_simp
        try with_reducible rfl
      case z17 =>
      try simp only [Act.put, List.setIfInBounds_toArray, List.set_cons_zero, List.set_cons_succ]
      refine Rr.till_all [18] (by kernel_rfl) (by simp) (List.forall_mem_cons.2 ⟨fun K hK => ?_, fun i hi => by cases hi⟩)
      refine Rr.op_at _ rfl ?_
      go_simp
      have t10 : World.cell? (w9.setCell ⟨w.heap.size, 1, none⟩ (.slice A8 (pre.length + 1) c8)) ⟨(w.heap.size + 1), 0, none⟩ = some (.pointer (some ⟨w.heap.size, 0, none⟩)) := (World.cell?_of_block (Below.heap_setCell w9 ⟨w.heap.size, 1, none⟩ _ (w.heap.size + 1) (by exact HCG.out))).trans t9
      refine hK _ _ t10 (fun h => absurd h (by decide)) ?_
      clear hK K
      try simp only [Act.put, List.setIfInBounds_toArray, List.set_cons_zero, List.set_cons_succ]
      refine Rr.take_T 19 (v := ?v19) rfl (by kernel_rfl) (by kernel_rfl) (by kernel_rfl) (by kernel_rfl) (fun _ _ _ h => h) t10 (fun h => absurd h (by decide)) (Or.inl ⟨by rfl, ?y19⟩) ?z19
      case y19 =>
        intro wz hz
        try dsimp only at hz
        go_simp
        try with_reducible rfl
      case z19 =>
      try simp only [Act.put, List.setIfInBounds_toArray, List.set_cons_zero, List.set_cons_succ]
      refine Rr.take_T 20 (v := ?v20) rfl (by kernel_rfl) (by kernel_rfl) (by kernel_rfl) (by kernel_rfl) (fun _ _ _ h => h) t10 (fun h => absurd h (by decide)) (Or.inl ⟨by rfl, ?y20⟩) ?z20
      case y20 =>
        intro wz hz
        try dsimp only at hz
        go_simp
        try with_reducible rfl
      case z20 =>
      try simp only [Act.put, List.setIfInBounds_toArray, List.set_cons_zero, List.set_cons_succ]
      refine Rr.till_all [21] (by kernel_rfl) (by simp) (List.forall_mem_cons.2 ⟨fun K hK => ?_, fun i hi => by cases hi⟩)
      have X10 := Lib.hid (heap_set1 X9.out (u := .slice A8 (pre.length + 1) c8))
      have s102 : World.cell? (w9.setCell ⟨w.heap.size, 1, none⟩ (.slice A8 (pre.length + 1) c8)) ⟨w.heap.size, 2, none⟩ = some (.slice Av pre.length cv) := cell_of X10.out 2
      have f102 : (w9.setCell ⟨w.heap.size, 1, none⟩ (.slice A8 (pre.length + 1) c8)).frozen? ⟨w.heap.size, 2, none⟩ = false := frozen_of X10.out 2
      refine Rr.op_at _ rfl ?_
      go_simp
      have t11 : World.cell? ((w9.setCell ⟨w.heap.size, 1, none⟩ (.slice A8 (pre.length + 1) c8)).setCell ⟨w.heap.size, 2, none⟩ (.slice A9 (pre.length + 1) c9)) ⟨(w.heap.size + 1), 0, none⟩ = some (.pointer (some ⟨w.heap.size, 0, none⟩)) := (World.cell?_of_block (Below.heap_setCell _ ⟨w.heap.size, 2, none⟩ _ (w.heap.size + 1) (by exact HCG.out))).trans t10
      refine hK _ _ t11 (fun h => absurd h (by decide)) ?_
      clear hK K
      refine Rr.till_done (by kernel_rfl) ?_ _
      exact copy_end FIN.out HH.out X9.out HGC.out (Nat.le_refl _) HK.out HV.out HBX.out HBN.out HCG.out (by omega) HB.out
end Go.Proofs.Ytdenkbdagbmddaa.DcO
