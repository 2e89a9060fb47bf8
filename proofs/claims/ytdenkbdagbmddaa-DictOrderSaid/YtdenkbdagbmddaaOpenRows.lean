/- Slices of structs among a law's arguments, opened to their cells; and the pairs. -/
import Derived.Deep.Slices
import Derived.Deep.Fields
import Derived.ChangeSame
import Derived.Carry
import Derived.Test.YtdenkbdagbmddaaDictRef
namespace Go.Proofs.Ytdenkbdagbmddaa.Opn
open Go.ChangeShapes Go.WideShapes Go.Deep Go.RowKit Dc DcR
set_option linter.unusedVariables false

section
variable {H : Type} {enc : TypeId × Value → H} {P : Program} {W : World} {base : Nat} {spare : Nat → Bool} {held : Bool}
theorem spot_none {a : Addr} {v : Value} (h : W.cell? a = some v) : a.spot = none := by
  unfold World.cell? at h
  split at h
  · split at h
    · cases h
    · rename_i hs
      simpa using hs
  · cases h
/-- Every element's fields, a cell each. -/
theorem open_rows' {t e : TypeId} {fs : Array Field} {fuel : Nat} {v : Value} {x : DataW H × List MemPlace} (ht : P.underlying t = some (.slice e)) (he : P.underlying e = some (.struct fs))
    (hone : oneCellFields P fs = true) (hC : P.cellsOf e = fs.size) (hpos : 0 < fs.size) (h : DataW.trod enc P W base spare held fuel t [v] = some x) :
    ∃ (A : Option Addr) (len cap : Nat), v = .slice A len cap ∧ len ≤ cap ∧ cap ≤ maxLen ∧ (A = none → cap = 0) ∧ ∀ i, i < len → ∃ b o, A = some ⟨b, o, none⟩ ∧
      ∀ (j : Nat) (f : Field), fs[j]? = some f → ∃ (u : Value) (y : DataW H × List MemPlace) (n : Nat), W.cell? ⟨b, o + i * fs.size + j, none⟩ = some u ∧ DataW.trod enc P W base spare held n f.type [u] = some y := by
  rcases open_slice ht h with ⟨h0, _⟩ | ⟨a, len', cap', m, n, D, Pl, hcs, hb, hl, hm, hmm, hx, hi⟩
  · simp only [List.cons.injEq, and_true] at h0
    subst h0
    exact ⟨none, 0, 0, rfl, Nat.le_refl _, by unfold maxLen; omega, fun _ => rfl, fun i hi => by omega⟩
  · simp only [List.cons.injEq, and_true] at hcs
    subst hcs
    have hlm : len' ≤ m := by rw [hmm]; split <;> omega
    have each : ∀ i, i < len' → ∀ (j : Nat) (f : Field), fs[j]? = some f → ∃ (u : Value) (y : DataW H × List MemPlace) (n : Nat), W.cell? (a.add (i * fs.size + j)) = some u ∧ DataW.trod enc P W base spare held n f.type [u] = some y := by
      intro i hi' j f hj
      obtain ⟨cs', hc, ht'⟩ := hi i (by omega)
      rw [hC] at hc
      obtain ⟨ys, n', _, _, _, hyl, hf⟩ := DataW.trod_struct he ht'
      obtain ⟨_, hcl, hat⟩ := World.cells?_some hc
      obtain ⟨ho, hk⟩ := hone_of hone j f hj
      have hjl : j < fs.size := (Array.getElem?_eq_some_iff.1 hj).1
      have hcell := hat j hjl
      rw [add_add, List.getElem?_eq_getElem (by omega)] at hcell
      have h1 := hf j f hj
      rw [ho, hk] at h1
      have hone' : (cs'.drop j).take 1 = [cs'[j]'(by omega)] := by
        rw [List.drop_eq_getElem_cons (by omega)]
        rfl
      rw [hone', List.getElem?_eq_getElem (by omega)] at h1
      exact ⟨_, _, _, hcell, h1⟩
    refine ⟨some a, len', cap', rfl, hl, hm, fun h => (by cases h), fun i hi' => ?_⟩
    have h0 : a.spot = none := by
      obtain ⟨u, y, n, hu, _⟩ := each 0 (by omega) 0 fs[0] (Array.getElem?_eq_getElem hpos)
      rw [Nat.zero_mul] at hu
      exact spot_none hu
    obtain ⟨b, o, sp⟩ := a
    cases h0
    refine ⟨b, o, rfl, fun j f hj => ?_⟩
    obtain ⟨u, y, n, hu, hy⟩ := each i hi' j f hj
    refine ⟨u, y, n, ?_, hy⟩
    have e : (⟨b, o, none⟩ : Addr).add (i * fs.size + j) = ⟨b, o + i * fs.size + j, none⟩ := by
      unfold Addr.add
      split
      · rename_i hz; rw [Nat.add_assoc, hz]; rfl
      · rw [Nat.add_assoc]
    rwa [e] at hu
theorem open_rows {t e : TypeId} {fs : Array Field} {r : Reach} {b0 : Nat} {v : Value} {d : DataW H} {ps : List MemPlace} (ht : P.underlying t = some (.slice e)) (he : P.underlying e = some (.struct fs))
    (hone : oneCellFields P fs = true) (hC : P.cellsOf e = fs.size) (hpos : 0 < fs.size) (hval : Value.okWide P W r b0 t v) (h : DataW.Trod enc P W base spare held t v d ps) :
    ∃ (A : Option Addr) (len cap : Nat), v = .slice A len cap ∧ len ≤ cap ∧ cap ≤ maxLen ∧ ∀ i, i < len → ∃ b o, A = some ⟨b, o, none⟩ ∧
      ∀ (j : Nat) (f : Field), fs[j]? = some f → ∃ (u : Value) (y : DataW H × List MemPlace) (n : Nat), W.cell? ⟨b, o + i * fs.size + j, none⟩ = some u ∧ DataW.trod enc P W base spare held n f.type [u] = some y := by
  obtain ⟨A, len, cap, rfl⟩ := okWide_slice ht hval
  obtain ⟨fuel, h⟩ := h
  obtain ⟨A', len', cap', e, h1, h2, _, h3⟩ := open_rows' (v := .slice A len cap) ht he hone hC hpos h
  exact ⟨A', len', cap', e, h1, h2, h3⟩
/-- A struct by value: its fields, a cell each. -/
theorem open_agg {t : TypeId} {fs : Array Field} {r : Reach} {b0 : Nat} {v : Value} {d : DataW H} {ps : List MemPlace} (hs : P.underlying t = some (.struct fs))
    (hone : oneCellFields P fs = true) (hC : P.cellsOf t = fs.size) (hval : Value.okWide P W r b0 t v) (h : DataW.Trod enc P W base spare held t v d ps) :
    ∃ cs : Array Value, v = .agg cs ∧ cs.size = fs.size ∧ ∀ (j : Nat) (f : Field), fs[j]? = some f → ∃ (u : Value) (y : DataW H × List MemPlace) (n : Nat), cs[j]? = some u ∧ DataW.trod enc P W base spare held n f.type [u] = some y := by
  obtain ⟨cs, rfl, hsz⟩ := okWide_struct hs hval
  obtain ⟨fuel, h⟩ := h
  have hcs : cs.size = fs.size := hsz.trans hC
  refine ⟨cs, rfl, hcs, fun j f hj => ?_⟩
  obtain ⟨ys, n, _, _, _, hyl, hf⟩ := DataW.trod_struct hs h
  obtain ⟨ho, hk⟩ := hone_of hone j f hj
  have hjl : j < fs.size := (Array.getElem?_eq_some_iff.1 hj).1
  have h1 := hf j f hj
  rw [ho, hk] at h1
  have hone' : ((Value.agg cs).cells.toList.drop j).take 1 = [cs[j]'(by omega)] := by
    show (cs.toList.drop j).take 1 = _
    rw [List.drop_eq_getElem_cons (by simp; omega)]
    rfl
  rw [hone', List.getElem?_eq_getElem (by omega)] at h1
  exact ⟨_, _, _, Array.getElem?_eq_getElem (by omega), h1⟩
theorem cell_str {t : TypeId} (ht : P.underlying t = some .string) {u : Value} {n : Nat} {y : DataW H × List MemPlace} (h : DataW.trod enc P W base spare held n t [u] = some y) : ∃ s : ByteArray, u = .string s ∧ s.size ≤ maxLen := by
  obtain ⟨s, hs, _, hl⟩ := DataW.trod_string ht h
  simp only [List.cons.injEq, and_true] at hs
  exact ⟨s, hs, hl⟩
theorem cell_int {t : TypeId} {k : IntKind} (ht : P.underlying t = some (.int k)) {u : Value} {n : Nat} {y : DataW H × List MemPlace} (h : DataW.trod enc P W base spare held n t [u] = some y) : ∃ z : Int, u = .int k z ∧ (Lit.int k z).wf = true := by
  obtain ⟨s, hs, _, hl⟩ := DataW.trod_int ht h
  simp only [List.cons.injEq, and_true] at hs
  exact ⟨s, hs, hl⟩
theorem cell_bool {t : TypeId} (ht : P.underlying t = some .bool) {u : Value} {n : Nat} {y : DataW H × List MemPlace} (h : DataW.trod enc P W base spare held n t [u] = some y) : ∃ b : Bool, u = .bool b := by
  obtain ⟨b, hs, _⟩ := DataW.trod_bool ht h
  simp only [List.cons.injEq, and_true] at hs
  exact ⟨b, hs⟩
theorem list_of {α : Type} {len : Nat} {p : Nat → α → Prop} (h : ∀ i, i < len → ∃ x, p i x) : ∃ l : List α, l.length = len ∧ ∀ j x, l[j]? = some x → p j x := by
  induction len with
  | zero => exact ⟨[], rfl, fun j x hx => by simp at hx⟩
  | succ n ih =>
    obtain ⟨l, hl, hp⟩ := ih fun i hi => h i (by omega)
    obtain ⟨x, hx⟩ := h n (by omega)
    refine ⟨l ++ [x], by simp [hl], fun j y hy => ?_⟩
    by_cases hj : j < n
    · rw [List.getElem?_append_left (by omega)] at hy
      exact hp j y hy
    · rw [List.getElem?_append_right (by omega)] at hy
      have : j = n := by
        have := (List.getElem?_eq_some_iff.1 hy).1
        simp at this
        omega
      subst this
      rw [hl, Nat.sub_self] at hy
      simp at hy
      subst hy
      exact hx
end
set_option maxRecDepth 100000 in
theorem open_prs {H : Type} {enc : TypeId × Value → H} {W : World} {base : Nat} {spare : Nat → Bool} {held : Bool} {r : Reach} {b0 : Nat} {v : Value} {d : DataW H} {ps : List MemPlace} (hval : Value.okWide Try.prog W r b0 22 v)
    (h : DataW.Trod enc Try.prog W base spare held 22 v d ps) : ∃ l : List Pr, Prs W v l ∧ l.length ≤ maxLen := by
  have hu := Try.underlying24
  obtain ⟨A, len, cap, rfl, hlc, hcm, hx⟩ := open_rows Try.underlying22 hu (by kernel_rfl) (by kernel_rfl) (by decide) hval h
  obtain ⟨l, hl, hp⟩ := list_of (p := fun i (p : Pr) => ∃ b o, A = some ⟨b, o, none⟩ ∧ W.cell? ⟨b, o + i * 2, none⟩ = some (.string p.1) ∧ W.cell? ⟨b, o + i * 2 + 1, none⟩ = some (.string p.2)) (len := len) (fun i hi => by
    obtain ⟨b, o, hA, hf⟩ := hx i hi
    obtain ⟨u0, y0, n0, c0, t0⟩ := hf 0 _ rfl
    obtain ⟨u1, y1, n1, c1, t1⟩ := hf 1 _ rfl
    obtain ⟨s0, rfl, _⟩ := cell_str Try.underlying9 t0
    obtain ⟨s1, rfl, _⟩ := cell_str Try.underlying9 t1
    exact ⟨(s0, s1), b, o, hA, c0, c1⟩)
  subst hl
  exact ⟨l, ⟨A, cap, rfl, hlc, hp⟩, Nat.le_trans hlc hcm⟩
set_option maxRecDepth 100000 in
theorem open_prs' {H : Type} {enc : TypeId × Value → H} {W : World} {base : Nat} {spare : Nat → Bool} {held : Bool} {fuel : Nat} {v : Value} {x : DataW H × List MemPlace}
    (h : DataW.trod enc Try.prog W base spare held fuel 22 [v] = some x) : ∃ l : List Pr, Prs W v l ∧ l.length ≤ maxLen := by
  have hu := Try.underlying24
  obtain ⟨A, len, cap, rfl, hlc, hcm, _, hx⟩ := open_rows' Try.underlying22 hu (by kernel_rfl) (by kernel_rfl) (by decide) h
  obtain ⟨l, hl, hp⟩ := list_of (p := fun i (p : Pr) => ∃ b o, A = some ⟨b, o, none⟩ ∧ W.cell? ⟨b, o + i * 2, none⟩ = some (.string p.1) ∧ W.cell? ⟨b, o + i * 2 + 1, none⟩ = some (.string p.2)) (len := len) (fun i hi => by
    obtain ⟨b, o, hA, hf⟩ := hx i hi
    obtain ⟨u0, y0, n0, c0, t0⟩ := hf 0 _ rfl
    obtain ⟨u1, y1, n1, c1, t1⟩ := hf 1 _ rfl
    obtain ⟨s0, rfl, _⟩ := cell_str Try.underlying9 t0
    obtain ⟨s1, rfl, _⟩ := cell_str Try.underlying9 t1
    exact ⟨(s0, s1), b, o, hA, c0, c1⟩)
  subst hl
  exact ⟨l, ⟨A, cap, rfl, hlc, hp⟩, Nat.le_trans hlc hcm⟩
set_option maxRecDepth 100000 in
theorem open_pair {H : Type} {enc : TypeId × Value → H} {W : World} {base : Nat} {spare : Nat → Bool} {held : Bool} {r : Reach} {b0 : Nat} {v : Value} {d : DataW H} {ps : List MemPlace} (hval : Value.okWide Try.prog W r b0 24 v)
    (h : DataW.Trod enc Try.prog W base spare held 24 v d ps) : ∃ p : Pr, v = .agg #[.string p.1, .string p.2] := by
  obtain ⟨cs, rfl, hsz, hf⟩ := open_agg Try.underlying24 (by kernel_rfl) (by kernel_rfl) hval h
  obtain ⟨l⟩ := cs
  match l, hsz with
  | [u0, u1], _ =>
    obtain ⟨v0, y0, n0, c0, t0⟩ := hf 0 _ rfl
    obtain ⟨v1, y1, n1, c1, t1⟩ := hf 1 _ rfl
    obtain ⟨s0, rfl, _⟩ := cell_str Try.underlying9 t0
    obtain ⟨s1, rfl, _⟩ := cell_str Try.underlying9 t1
    simp at c0 c1
    subst c0 c1
    exact ⟨(s0, s1), rfl⟩
end Go.Proofs.Ytdenkbdagbmddaa.Opn
