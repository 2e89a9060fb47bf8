/- Arguments opened: slices to their cells, structs by value to their fields (of no program). -/
import Derived.Deep.Slices
import Derived.Deep.Fields
import Derived.ChangeSame
import Derived.Carry
import Derived.OpenShut
import Derived.Lib.LaidU8
namespace Go.Proofs.YtdibkhddhgaghaaDoor.Og
open Go.ChangeShapes Go.WideShapes Go.Deep Go.RowKit
set_option linter.unusedVariables false
set_option linter.unusedSimpArgs false
section
variable {H : Type} {enc : TypeId × Value → H} {P : Program} {W : World} {base : Nat} {spare : Nat → Bool} {held : Bool}
theorem spot_none {a : Addr} {v : Value} (h : W.cell? a = some v) : a.spot = none := by
  unfold World.cell? at h
  split at h
  · split at h
    · cases h
    · rename_i hs
      simpa using hs
  · cases h
/-- A struct by value: its fields, a cell each. -/
theorem open_agg {t : TypeId} {fs : Array Field} {r : Reach} {b0 : Nat} {v : Value} {d : DataW H} {ps : List MemPlace} (hs : P.underlying t = some (.struct fs))
    (hone : oneCellFields P fs = true) (hC : P.cellsOf t = fs.size) (hval : Value.okWide P W r b0 t v) (h : DataW.Trod enc P W base spare held t v d ps) :
    ∃ cs : Array Value, v = .agg cs ∧ cs.size = fs.size ∧ ∀ (j : Nat) (f : Field), fs[j]? = some f → ∃ (u : Value) (y : DataW H × List MemPlace) (n : Nat), cs[j]? = some u ∧ DataW.trod enc P W base spare held n f.type [u] = some y := by
  obtain ⟨cs, rfl, hsz⟩ := okWide_struct hs hval
  obtain ⟨fuel, h⟩ := h
  have hcs : cs.size = fs.size := hsz.trans hC
  refine ⟨cs, rfl, hcs, fun j f hj => ?_⟩
  obtain ⟨ys, n, _, _, _, hyl, hf⟩ := DataW.trod_struct hs h
  obtain ⟨ho, hk⟩ := hone_of hone j f hj
  have hjl : j < fs.size := (Array.getElem?_eq_some_iff.1 hj).1
  have h1 := hf j f hj
  rw [ho, hk] at h1
  have hone' : ((Value.agg cs).cells.toList.drop j).take 1 = [cs[j]'(by omega)] := by
    show (cs.toList.drop j).take 1 = _
    rw [List.drop_eq_getElem_cons (by simp; omega)]
    rfl
  rw [hone', List.getElem?_eq_getElem (by omega)] at h1
  exact ⟨_, _, _, Array.getElem?_eq_getElem (by omega), h1⟩
theorem cell_str {t : TypeId} (ht : P.underlying t = some .string) {u : Value} {n : Nat} {y : DataW H × List MemPlace} (h : DataW.trod enc P W base spare held n t [u] = some y) : ∃ s : ByteArray, u = .string s ∧ s.size ≤ maxLen := by
  obtain ⟨s, hs, _, hl⟩ := DataW.trod_string ht h
  simp only [List.cons.injEq, and_true] at hs
  exact ⟨s, hs, hl⟩
theorem cell_int {t : TypeId} {k : IntKind} (ht : P.underlying t = some (.int k)) {u : Value} {n : Nat} {y : DataW H × List MemPlace} (h : DataW.trod enc P W base spare held n t [u] = some y) : ∃ z : Int, u = .int k z ∧ (Lit.int k z).wf = true := by
  obtain ⟨s, hs, _, hl⟩ := DataW.trod_int ht h
  simp only [List.cons.injEq, and_true] at hs
  exact ⟨s, hs, hl⟩
theorem cell_bool {t : TypeId} (ht : P.underlying t = some .bool) {u : Value} {n : Nat} {y : DataW H × List MemPlace} (h : DataW.trod enc P W base spare held n t [u] = some y) : ∃ b : Bool, u = .bool b := by
  obtain ⟨b, hs, _⟩ := DataW.trod_bool ht h
  simp only [List.cons.injEq, and_true] at hs
  exact ⟨b, hs⟩
theorem list_of {α : Type} {len : Nat} {p : Nat → α → Prop} (h : ∀ i, i < len → ∃ x, p i x) : ∃ l : List α, l.length = len ∧ ∀ j x, l[j]? = some x → p j x := by
  induction len with
  | zero => exact ⟨[], rfl, fun j x hx => by simp at hx⟩
  | succ n ih =>
    obtain ⟨l, hl, hp⟩ := ih fun i hi => h i (by omega)
    obtain ⟨x, hx⟩ := h n (by omega)
    refine ⟨l ++ [x], by simp [hl], fun j y hy => ?_⟩
    by_cases hj : j < n
    · rw [List.getElem?_append_left (by omega)] at hy
      exact hp j y hy
    · rw [List.getElem?_append_right (by omega)] at hy
      have : j = n := by
        have := (List.getElem?_eq_some_iff.1 hy).1
        simp at this
        omega
      subst this
      rw [hl, Nat.sub_self] at hy
      simp at hy
      subst hy
      exact hx
/-- Every element, as its cells. -/
theorem open_rows_of {t e : TypeId} {C fuel : Nat} {v : Value} {x : DataW H × List MemPlace} (ht : P.underlying t = some (.slice e)) (hC : P.cellsOf e = C) (hpos : 0 < C) (h : DataW.trod enc P W base spare held fuel t [v] = some x) :
    ∃ (A : Option Addr) (len cap : Nat), v = .slice A len cap ∧ len ≤ cap ∧ cap ≤ maxLen ∧ (A = none → cap = 0) ∧ ∀ i, i < len → ∃ (b o : Nat) (cs : List Value) (n : Nat) (y : DataW H × List MemPlace), A = some ⟨b, o, none⟩ ∧ cs.length = C ∧
      (∀ k u, cs[k]? = some u → W.cell? ⟨b, o + i * C + k, none⟩ = some u) ∧ DataW.trod enc P W base spare held n e cs = some y := by
  rcases open_slice ht h with ⟨h0, _⟩ | ⟨a, len', cap', m, n, D, Pl, hcs, hb, hl, hm, hmm, hx, hi⟩
  · simp only [List.cons.injEq, and_true] at h0
    subst h0
    exact ⟨none, 0, 0, rfl, Nat.le_refl _, by unfold maxLen; omega, fun _ => rfl, fun i hi => by omega⟩
  · simp only [List.cons.injEq, and_true] at hcs
    subst hcs
    have hlm : len' ≤ m := by rw [hmm]; split <;> omega
    refine ⟨some a, len', cap', rfl, hl, hm, fun h => (by cases h), fun i hi' => ?_⟩
    obtain ⟨cs', hc, ht'⟩ := hi i (by omega)
    rw [hC] at hc
    obtain ⟨_, hcl, hat⟩ := World.cells?_some hc
    have hcell : ∀ k u, cs'[k]? = some u → W.cell? (a.add (i * C + k)) = some u := by
      intro k u hk
      have hkl := (List.getElem?_eq_some_iff.1 hk).1
      have := hat k (by omega)
      rw [add_add, hk] at this
      exact this
    have h0 : a.spot = none := by
      obtain ⟨cs0, hc0, _⟩ := hi 0 (by omega)
      rw [hC] at hc0
      obtain ⟨_, hcl0, hat0⟩ := World.cells?_some hc0
      have := hat0 0 hpos
      rw [List.getElem?_eq_getElem (by omega), Nat.zero_mul] at this
      exact spot_none this
    obtain ⟨b, o, sp⟩ := a
    cases h0
    refine ⟨b, o, cs', _, _, rfl, hcl, fun k u hk => ?_, ht'⟩
    have := hcell k u hk
    have e : (⟨b, o, none⟩ : Addr).add (i * C + k) = ⟨b, o + i * C + k, none⟩ := by
      unfold Addr.add
      split
      · rename_i hz; rw [Nat.add_assoc, hz]; rfl
      · rw [Nat.add_assoc]
    rwa [e] at this
/-- A struct of two ints that reads as a known datum. -/
theorem two_ints {t e : TypeId} {fs : Array Field} {f0 f1 : Field} {fuel : Nat} {cs : List Value} {k : IntKind} {a b : Int} {p : List MemPlace} (ht : P.underlying t = some (.struct fs)) (hfs : fs = #[f0, f1]) (ho0 : f0.offset = 0) (ho1 : f1.offset = 1)
    (he0 : f0.type = e) (he1 : f1.type = e) (hu : P.underlying e = some (.int k)) (hc : P.cellsOf e = 1) (hct : P.cellsOf t = 2)
    (h : DataW.trod enc P W base spare held fuel t cs = some (.agg [.lit (.int k a), .lit (.int k b)], p)) : cs = [.int k a, .int k b] := by
  obtain ⟨xs, n, _, hx, hl, hxl, hf⟩ := DataW.trod_struct ht h
  subst hfs
  have h0 := hf 0 f0 rfl
  have h1 := hf 1 f1 rfl
  rw [ho0, he0, hc] at h0
  rw [ho1, he1, hc] at h1
  rw [hct] at hl
  injection hx with hx _
  injection hx with hx
  match xs, hxl, hx with
  | [x0, x1], _, hx =>
    simp at hx
    match cs, hl with
    | [c0, c1], _ =>
      simp at h0 h1
      obtain ⟨z0, e0, d0, _⟩ := DataW.trod_int hu h0
      obtain ⟨z1, e1, d1, _⟩ := DataW.trod_int hu h1
      have hx0 := hx.1
      have hx1 := hx.2
      rw [d0] at hx0
      rw [d1] at hx1
      simp at hx0 hx1 e0 e1
      rw [e0, e1, ← hx0, ← hx1]
end
end Go.Proofs.YtdibkhddhgaghaaDoor.Og
