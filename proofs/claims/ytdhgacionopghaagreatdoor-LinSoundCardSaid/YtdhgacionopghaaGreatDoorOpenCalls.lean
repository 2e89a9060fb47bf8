/- A slice of calls among a law's arguments, opened to its cells; and a slice of ints. -/
import Derived.Test.YtdhgacionopghaaGreatDoorOrdSmall
namespace Go.Proofs.YtdhgacionopghaaGreatDoor.Od
open Go.ChangeShapes Go.WideShapes Go.Deep Go.RowKit Go.Shelf Dc DcM DcW DcI DcR DcL Sp Opn
set_option linter.unusedVariables false
set_option linter.unusedSimpArgs false
section
variable {H : Type} {enc : TypeId × Value → H} {P : Program} {W : World} {base : Nat} {spare : Nat → Bool} {held : Bool}
/-- Every element, as its cells. -/
theorem open_rows_of {t e : TypeId} {C fuel : Nat} {v : Value} {x : DataW H × List MemPlace} (ht : P.underlying t = some (.slice e)) (hC : P.cellsOf e = C) (hpos : 0 < C) (h : DataW.trod enc P W base spare held fuel t [v] = some x) :
    ∃ (A : Option Addr) (len cap : Nat), v = .slice A len cap ∧ len ≤ cap ∧ cap ≤ maxLen ∧ (A = none → cap = 0) ∧ ∀ i, i < len → ∃ (b o : Nat) (cs : List Value) (n : Nat) (y : DataW H × List MemPlace), A = some ⟨b, o, none⟩ ∧ cs.length = C ∧
      (∀ k u, cs[k]? = some u → W.cell? ⟨b, o + i * C + k, none⟩ = some u) ∧ DataW.trod enc P W base spare held n e cs = some y := by
  rcases open_slice ht h with ⟨h0, _⟩ | ⟨a, len', cap', m, n, D, Pl, hcs, hb, hl, hm, hmm, hx, hi⟩
  · simp only [List.cons.injEq, and_true] at h0
    subst h0
    exact ⟨none, 0, 0, rfl, Nat.le_refl _, by unfold maxLen; omega, fun _ => rfl, fun i hi => by omega⟩
  · simp only [List.cons.injEq, and_true] at hcs
    subst hcs
    have hlm : len' ≤ m := by rw [hmm]; split <;> omega
    refine ⟨some a, len', cap', rfl, hl, hm, fun h => (by cases h), fun i hi' => ?_⟩
    obtain ⟨cs', hc, ht'⟩ := hi i (by omega)
    rw [hC] at hc
    obtain ⟨_, hcl, hat⟩ := World.cells?_some hc
    have hcell : ∀ k u, cs'[k]? = some u → W.cell? (a.add (i * C + k)) = some u := by
      intro k u hk
      have hkl := (List.getElem?_eq_some_iff.1 hk).1
      have := hat k (by omega)
      rw [add_add, hk] at this
      exact this
    have h0 : a.spot = none := by
      obtain ⟨cs0, hc0, _⟩ := hi 0 (by omega)
      rw [hC] at hc0
      obtain ⟨_, hcl0, hat0⟩ := World.cells?_some hc0
      have := hat0 0 hpos
      rw [List.getElem?_eq_getElem (by omega), Nat.zero_mul] at this
      exact spot_none this
    obtain ⟨b, o, sp⟩ := a
    cases h0
    refine ⟨b, o, cs', _, _, rfl, hcl, fun k u hk => ?_, ht'⟩
    have := hcell k u hk
    have e : (⟨b, o, none⟩ : Addr).add (i * C + k) = ⟨b, o + i * C + k, none⟩ := by
      unfold Addr.add
      split
      · rename_i hz; rw [Nat.add_assoc, hz]; rfl
      · rw [Nat.add_assoc]
    rwa [e] at this
end
set_option maxRecDepth 100000 in
set_option maxHeartbeats 4000000 in
theorem open_calls {H : Type} {enc : TypeId × Value → H} {W : World} {base : Nat} {spare : Nat → Bool} {held : Bool} {r : Reach} {b0 : Nat} {v : Value} {d : DataW H} {ps : List MemPlace} (hval : Value.okWide Tryz.prog W r b0 22 v)
    (h : DataW.Trod enc Tryz.prog W base spare held 22 v d ps) : ∃ l : List CV, Cls W v l ∧ l.length ≤ maxLen := by
  have hu := Tryz.underlying44
  have huo := Tryz.underlying42
  have hur := Tryz.underlying40
  have ki : Tryz.prog.cellsOf 3 = 1 := by kernel_rfl
  have ks : Tryz.prog.cellsOf 9 = 1 := by kernel_rfl
  have kb : Tryz.prog.cellsOf 4 = 1 := by kernel_rfl
  have ke : Tryz.prog.cellsOf 35 = 1 := by kernel_rfl
  have kp : Tryz.prog.cellsOf 38 = 1 := by kernel_rfl
  have ko : Tryz.prog.cellsOf 42 = 4 := by kernel_rfl
  have kr : Tryz.prog.cellsOf 40 = 6 := by kernel_rfl
  obtain ⟨A0, len0, cap0, rfl⟩ := Go.WideShapes.okWide_slice Tryz.underlying22 hval
  obtain ⟨fuel, h⟩ := h
  obtain ⟨A, len, cap, e, hlc, hcm, hnone, hx⟩ := open_rows_of (C := 15) (v := .slice A0 len0 cap0) Tryz.underlying22 (by kernel_rfl) (by decide) h
  rw [e]
  obtain ⟨l, hl, hp⟩ := Opn.list_of (p := fun j (q : CV) => Prs W q.2 q.1.reply.pairs ∧ q.1.reply.pairs.length ≤ maxLen ∧ q.1.op.key.size ≤ maxLen ∧ q.1.op.value.size ≤ maxLen ∧ q.1.op.old.size ≤ maxLen ∧
    ∃ b z, A = some ⟨b, z, none⟩ ∧ b < W.heap.size ∧ ∀ k u, (callC q.1 q.2)[k]? = some u → W.cell? ⟨b, z + j * 15 + k, none⟩ = some u) (len := len) (fun i hi => by
    obtain ⟨b, o, cs, n, y, hA, hcl, hcell, ht⟩ := hx i hi
    obtain ⟨c0, c1, c2, c3, c4, c5, c6, c7, c8, c9, c10, c11, c12, c13, c14, rfl⟩ : ∃ c0 c1 c2 c3 c4 c5 c6 c7 c8 c9 c10 c11 c12 c13 c14 : Value, cs = [c0, c1, c2, c3, c4, c5, c6, c7, c8, c9, c10, c11, c12, c13, c14] := by
      match cs, hcl with
      | [c0, c1, c2, c3, c4, c5, c6, c7, c8, c9, c10, c11, c12, c13, c14], _ => exact ⟨_, _, _, _, _, _, _, _, _, _, _, _, _, _, _, rfl⟩
    obtain ⟨ys, n', _, _, _, hyl, hf⟩ := DataW.trod_struct hu ht
    have f0 : DataW.trod enc Tryz.prog W base spare held n' 3 (([c0, c1, c2, c3, c4, c5, c6, c7, c8, c9, c10, c11, c12, c13, c14].drop 0).take (Tryz.prog.cellsOf 3)) = ys[0]? := hf 0 _ rfl
    rw [ki, List.getElem?_eq_getElem (by rw [hyl]; decide)] at f0
    simp only [List.drop_zero, List.drop_succ_cons, List.take_succ_cons, List.take_zero] at f0
    have f1 : DataW.trod enc Tryz.prog W base spare held n' 3 (([c0, c1, c2, c3, c4, c5, c6, c7, c8, c9, c10, c11, c12, c13, c14].drop 1).take (Tryz.prog.cellsOf 3)) = ys[1]? := hf 1 _ rfl
    rw [ki, List.getElem?_eq_getElem (by rw [hyl]; decide)] at f1
    simp only [List.drop_zero, List.drop_succ_cons, List.take_succ_cons, List.take_zero] at f1
    have f2 : DataW.trod enc Tryz.prog W base spare held n' 42 (([c0, c1, c2, c3, c4, c5, c6, c7, c8, c9, c10, c11, c12, c13, c14].drop 2).take (Tryz.prog.cellsOf 42)) = ys[2]? := hf 2 _ rfl
    rw [ko, List.getElem?_eq_getElem (by rw [hyl]; decide)] at f2
    simp only [List.drop_zero, List.drop_succ_cons, List.take_succ_cons, List.take_zero] at f2
    have f3 : DataW.trod enc Tryz.prog W base spare held n' 3 (([c0, c1, c2, c3, c4, c5, c6, c7, c8, c9, c10, c11, c12, c13, c14].drop 6).take (Tryz.prog.cellsOf 3)) = ys[3]? := hf 3 _ rfl
    rw [ki, List.getElem?_eq_getElem (by rw [hyl]; decide)] at f3
    simp only [List.drop_zero, List.drop_succ_cons, List.take_succ_cons, List.take_zero] at f3
    have f4 : DataW.trod enc Tryz.prog W base spare held n' 3 (([c0, c1, c2, c3, c4, c5, c6, c7, c8, c9, c10, c11, c12, c13, c14].drop 7).take (Tryz.prog.cellsOf 3)) = ys[4]? := hf 4 _ rfl
    rw [ki, List.getElem?_eq_getElem (by rw [hyl]; decide)] at f4
    simp only [List.drop_zero, List.drop_succ_cons, List.take_succ_cons, List.take_zero] at f4
    have f5 : DataW.trod enc Tryz.prog W base spare held n' 4 (([c0, c1, c2, c3, c4, c5, c6, c7, c8, c9, c10, c11, c12, c13, c14].drop 8).take (Tryz.prog.cellsOf 4)) = ys[5]? := hf 5 _ rfl
    rw [kb, List.getElem?_eq_getElem (by rw [hyl]; decide)] at f5
    simp only [List.drop_zero, List.drop_succ_cons, List.take_succ_cons, List.take_zero] at f5
    have f6 : DataW.trod enc Tryz.prog W base spare held n' 40 (([c0, c1, c2, c3, c4, c5, c6, c7, c8, c9, c10, c11, c12, c13, c14].drop 9).take (Tryz.prog.cellsOf 40)) = ys[6]? := hf 6 _ rfl
    rw [kr, List.getElem?_eq_getElem (by rw [hyl]; decide)] at f6
    simp only [List.drop_zero, List.drop_succ_cons, List.take_succ_cons, List.take_zero] at f6
    obtain ⟨os, n2, _, _, _, hol, ho⟩ := DataW.trod_struct huo f2
    have o0 : DataW.trod enc Tryz.prog W base spare held n2 3 (([c2, c3, c4, c5].drop 0).take (Tryz.prog.cellsOf 3)) = os[0]? := ho 0 _ rfl
    rw [ki, List.getElem?_eq_getElem (by rw [hol]; decide)] at o0
    simp only [List.drop_zero, List.drop_succ_cons, List.take_succ_cons, List.take_zero] at o0
    have o1 : DataW.trod enc Tryz.prog W base spare held n2 9 (([c2, c3, c4, c5].drop 1).take (Tryz.prog.cellsOf 9)) = os[1]? := ho 1 _ rfl
    rw [ks, List.getElem?_eq_getElem (by rw [hol]; decide)] at o1
    simp only [List.drop_zero, List.drop_succ_cons, List.take_succ_cons, List.take_zero] at o1
    have o2 : DataW.trod enc Tryz.prog W base spare held n2 9 (([c2, c3, c4, c5].drop 2).take (Tryz.prog.cellsOf 9)) = os[2]? := ho 2 _ rfl
    rw [ks, List.getElem?_eq_getElem (by rw [hol]; decide)] at o2
    simp only [List.drop_zero, List.drop_succ_cons, List.take_succ_cons, List.take_zero] at o2
    have o3 : DataW.trod enc Tryz.prog W base spare held n2 9 (([c2, c3, c4, c5].drop 3).take (Tryz.prog.cellsOf 9)) = os[3]? := ho 3 _ rfl
    rw [ks, List.getElem?_eq_getElem (by rw [hol]; decide)] at o3
    simp only [List.drop_zero, List.drop_succ_cons, List.take_succ_cons, List.take_zero] at o3
    obtain ⟨rs, n3, _, _, _, hrl, hr⟩ := DataW.trod_struct hur f6
    have r0 : DataW.trod enc Tryz.prog W base spare held n3 35 (([c9, c10, c11, c12, c13, c14].drop 0).take (Tryz.prog.cellsOf 35)) = rs[0]? := hr 0 _ rfl
    rw [ke, List.getElem?_eq_getElem (by rw [hrl]; decide)] at r0
    simp only [List.drop_zero, List.drop_succ_cons, List.take_succ_cons, List.take_zero] at r0
    have r1 : DataW.trod enc Tryz.prog W base spare held n3 4 (([c9, c10, c11, c12, c13, c14].drop 1).take (Tryz.prog.cellsOf 4)) = rs[1]? := hr 1 _ rfl
    rw [kb, List.getElem?_eq_getElem (by rw [hrl]; decide)] at r1
    simp only [List.drop_zero, List.drop_succ_cons, List.take_succ_cons, List.take_zero] at r1
    have r2 : DataW.trod enc Tryz.prog W base spare held n3 4 (([c9, c10, c11, c12, c13, c14].drop 2).take (Tryz.prog.cellsOf 4)) = rs[2]? := hr 2 _ rfl
    rw [kb, List.getElem?_eq_getElem (by rw [hrl]; decide)] at r2
    simp only [List.drop_zero, List.drop_succ_cons, List.take_succ_cons, List.take_zero] at r2
    have r3 : DataW.trod enc Tryz.prog W base spare held n3 9 (([c9, c10, c11, c12, c13, c14].drop 3).take (Tryz.prog.cellsOf 9)) = rs[3]? := hr 3 _ rfl
    rw [ks, List.getElem?_eq_getElem (by rw [hrl]; decide)] at r3
    simp only [List.drop_zero, List.drop_succ_cons, List.take_succ_cons, List.take_zero] at r3
    have r4 : DataW.trod enc Tryz.prog W base spare held n3 3 (([c9, c10, c11, c12, c13, c14].drop 4).take (Tryz.prog.cellsOf 3)) = rs[4]? := hr 4 _ rfl
    rw [ki, List.getElem?_eq_getElem (by rw [hrl]; decide)] at r4
    simp only [List.drop_zero, List.drop_succ_cons, List.take_succ_cons, List.take_zero] at r4
    have r5 : DataW.trod enc Tryz.prog W base spare held n3 38 (([c9, c10, c11, c12, c13, c14].drop 5).take (Tryz.prog.cellsOf 38)) = rs[5]? := hr 5 _ rfl
    rw [kp, List.getElem?_eq_getElem (by rw [hrl]; decide)] at r5
    simp only [List.drop_zero, List.drop_succ_cons, List.take_succ_cons, List.take_zero] at r5
    obtain ⟨x0, rfl, _⟩ := Opn.cell_int Tryz.underlying3 f0
    obtain ⟨x1, rfl, _⟩ := Opn.cell_int Tryz.underlying3 f1
    obtain ⟨x2, rfl, _⟩ := Opn.cell_int Tryz.underlying3 o0
    obtain ⟨x3, rfl, s3⟩ := Opn.cell_str Tryz.underlying9 o1
    obtain ⟨x4, rfl, s4⟩ := Opn.cell_str Tryz.underlying9 o2
    obtain ⟨x5, rfl, s5⟩ := Opn.cell_str Tryz.underlying9 o3
    obtain ⟨x6, rfl, _⟩ := Opn.cell_int Tryz.underlying3 f3
    obtain ⟨x7, rfl, _⟩ := Opn.cell_int Tryz.underlying3 f4
    obtain ⟨x8, rfl⟩ := Opn.cell_bool Tryz.underlying4 f5
    obtain ⟨x9, rfl, _⟩ := Opn.cell_int Tryz.underlying35 r0
    obtain ⟨x10, rfl⟩ := Opn.cell_bool Tryz.underlying4 r1
    obtain ⟨x11, rfl⟩ := Opn.cell_bool Tryz.underlying4 r2
    obtain ⟨x12, rfl, _⟩ := Opn.cell_str Tryz.underlying9 r3
    obtain ⟨x13, rfl, _⟩ := Opn.cell_int Tryz.underlying3 r4
    obtain ⟨pl, hpl, hpn⟩ := Opn.open_prs' r5
    exact ⟨(⟨x0, x1, ⟨x2, x3, x4, x5⟩, x6, x7, x8, ⟨x9, x10, x11, x12, x13, pl⟩⟩, c14), hpl, hpn, s3, s4, s5, b, o, hA, World.block_lt_of_cell? W _ (hcell 0 _ rfl), fun k u hk => hcell k u (by
      have := hk
      rw [← Array.getElem?_toList] at this
      exact this)⟩)
  subst hl
  exact ⟨l, ⟨A, cap, rfl, hp⟩, Nat.le_trans hlc hcm⟩
set_option maxRecDepth 100000 in
theorem open_its {H : Type} {enc : TypeId × Value → H} {W : World} {base : Nat} {spare : Nat → Bool} {held : Bool} {r : Reach} {b0 : Nat} {v : Value} {d : DataW H} {ps : List MemPlace} (hval : Value.okWide Tryz.prog W r b0 23 v)
    (h : DataW.Trod enc Tryz.prog W base spare held 23 v d ps) : ∃ l : List Int, Its W v l ∧ l.length ≤ maxLen := by
  obtain ⟨A0, len0, cap0, rfl⟩ := Go.WideShapes.okWide_slice Tryz.underlying23 hval
  obtain ⟨fuel, h⟩ := h
  obtain ⟨A, len, cap, e, hlc, hcm, hnone, hx⟩ := open_rows_of (C := 1) (v := .slice A0 len0 cap0) Tryz.underlying23 (by kernel_rfl) (by decide) h
  rw [e]
  obtain ⟨l, hl, hp⟩ := Opn.list_of (p := fun j (x : Int) => ∃ b z, A = some ⟨b, z, none⟩ ∧ b < W.heap.size ∧ W.cell? ⟨b, z + j, none⟩ = some (.int .i64 x)) (len := len) (fun i hi => by
    obtain ⟨b, o, cs, n, y, hA, hcl, hcell, ht⟩ := hx i hi
    obtain ⟨c0, rfl⟩ : ∃ c0 : Value, cs = [c0] := by
      match cs, hcl with
      | [c0], _ => exact ⟨_, rfl⟩
    obtain ⟨x0, rfl, _⟩ := Opn.cell_int Tryz.underlying3 ht
    have := hcell 0 _ rfl
    rw [Nat.mul_one, Nat.add_zero] at this
    exact ⟨x0, b, o, hA, World.block_lt_of_cell? W _ this, this⟩)
  subst hl
  exact ⟨l, ⟨A, cap, rfl, hlc, hp⟩, Nat.le_trans hlc hcm⟩
end Go.Proofs.YtdhgacionopghaaGreatDoor.Od
