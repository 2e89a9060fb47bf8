/- Arguments opened, and how great their texts are: by the bulk of what is read. -/
import Derived.Outline
import Derived.Test.YtdibkhddhgaghaaDoorRows
import Derived.Test.YtdibkhddhgaghaaDoorOpenGen
namespace Go.Proofs.YtdibkhddhgaghaaDoor.Ob
open Go.ChangeShapes Go.WideShapes Go.Deep Go.RowKit
set_option linter.unusedVariables false
set_option linter.unusedSimpArgs false
section
variable {H : Type} {enc : TypeId × Value → H} {P : Program} {W : World} {base : Nat} {spare : Nat → Bool} {held : Bool}
theorem bulk_mem {d : DataW H} : ∀ {l : List (DataW H)}, d ∈ l → Rows.uptoBulk d ≤ Rows.uptoBulkAll l
  | [], h => by simp at h
  | e :: l, h => by
    rw [Rows.uptoBulkAll]
    rcases List.mem_cons.1 h with rfl | h
    · omega
    · have := bulk_mem h; omega
theorem agg_le {xs : List (DataW H × List MemPlace)} {x : DataW H × List MemPlace} {ps : List MemPlace} (h : x = (.agg (xs.map (·.1)), ps)) (i : Nat) (hi : i < xs.length) : Rows.uptoBulk (xs[i]'hi).1 ≤ Rows.uptoBulk x.1 := by
  rw [h]
  have := bulk_mem (d := (xs[i]'hi).1) (l := xs.map (·.1)) (List.mem_map_of_mem (List.getElem_mem hi))
  have e : Rows.uptoBulk (.agg (xs.map (·.1)) : DataW H) = Rows.uptoBulkAll (xs.map (·.1)) + 1 := by rw [Rows.uptoBulk]
  show _ ≤ Rows.uptoBulk (.agg (xs.map (·.1)))
  omega
theorem cell_str {t : TypeId} (ht : P.underlying t = some .string) {u : Value} {n : Nat} {y : DataW H × List MemPlace} (h : DataW.trod enc P W base spare held n t [u] = some y) : ∃ s : ByteArray, u = .string s ∧ s.size ≤ Rows.uptoBulk y.1 := by
  obtain ⟨s, hs, hy, hl⟩ := DataW.trod_string ht h
  simp only [List.cons.injEq, and_true] at hs
  refine ⟨s, hs, ?_⟩
  rw [hy]
  show _ ≤ Rows.uptoBulk (.lit (.string s.data.toList))
  rw [Rows.uptoBulk]
  simp
/-- Every element, as its cells; none is greater than all. -/
theorem open_rows_of {t e : TypeId} {C fuel : Nat} {v : Value} {x : DataW H × List MemPlace} (ht : P.underlying t = some (.slice e)) (hC : P.cellsOf e = C) (hpos : 0 < C) (h : DataW.trod enc P W base spare held fuel t [v] = some x) :
    ∃ (A : Option Addr) (len cap : Nat), v = .slice A len cap ∧ len ≤ cap ∧ cap ≤ maxLen ∧ (A = none → cap = 0) ∧ ∀ i, i < len → ∃ (b o : Nat) (cs : List Value) (n : Nat) (y : DataW H × List MemPlace), A = some ⟨b, o, none⟩ ∧ cs.length = C ∧
      (∀ k u, cs[k]? = some u → W.cell? ⟨b, o + i * C + k, none⟩ = some u) ∧ DataW.trod enc P W base spare held n e cs = some y ∧ Rows.uptoBulk y.1 ≤ Rows.uptoBulk x.1 := by
  rcases open_slice ht h with ⟨h0, _⟩ | ⟨a, len', cap', m, n, D, Pl, hcs, hb, hl, hm, hmm, hx, hi⟩
  · simp only [List.cons.injEq, and_true] at h0
    subst h0
    exact ⟨none, 0, 0, rfl, Nat.le_refl _, by unfold maxLen; omega, fun _ => rfl, fun i hi => by omega⟩
  · simp only [List.cons.injEq, and_true] at hcs
    subst hcs
    have hlm : len' ≤ m := by rw [hmm]; split <;> omega
    refine ⟨some a, len', cap', rfl, hl, hm, fun h => (by cases h), fun i hi' => ?_⟩
    obtain ⟨cs', hc, ht'⟩ := hi i (by omega)
    rw [hC] at hc
    obtain ⟨_, hcl, hat⟩ := World.cells?_some hc
    have hcell : ∀ k u, cs'[k]? = some u → W.cell? (a.add (i * C + k)) = some u := by
      intro k u hk
      have hkl := (List.getElem?_eq_some_iff.1 hk).1
      have := hat k (by omega)
      rw [add_add, hk] at this
      exact this
    have h0 : a.spot = none := by
      obtain ⟨cs0, hc0, _⟩ := hi 0 (by omega)
      rw [hC] at hc0
      obtain ⟨_, hcl0, hat0⟩ := World.cells?_some hc0
      have := hat0 0 hpos
      rw [List.getElem?_eq_getElem (by omega), Nat.zero_mul] at this
      exact Og.spot_none this
    obtain ⟨b, o, sp⟩ := a
    cases h0
    refine ⟨b, o, cs', _, _, rfl, hcl, fun k u hk => ?_, ht', ?_⟩
    · have := hcell k u hk
      have e : (⟨b, o, none⟩ : Addr).add (i * C + k) = ⟨b, o + i * C + k, none⟩ := by
        unfold Addr.add
        split
        · rename_i hz; rw [Nat.add_assoc, hz]; rfl
        · rw [Nat.add_assoc]
      rwa [e] at this
    · rw [hx]
      have := bulk_mem (d := D i) (l := (List.range len').map D) (List.mem_map_of_mem (List.mem_range.2 hi'))
      have e : ∀ a b : List (DataW H), Rows.uptoBulk (.slice a b) = Rows.uptoBulkAll a + Rows.uptoBulkAll b + 1 := fun a b => by rw [Rows.uptoBulk]
      show Rows.uptoBulk (D i) ≤ Rows.uptoBulk (.slice _ _)
      rw [e]
      omega
end
/-- The condition of the second form, at the arguments. -/
theorem small_le {H : Type} {ds : List (DataW H)} (h : Rows.uptoSmall H ds = true) {d : DataW H} (hd : d ∈ ds) : Rows.uptoBulk d ≤ 1048576 := by
  have := bulk_mem hd
  have h2 : Rows.uptoBulkAll ds ≤ 1048576 := of_decide_eq_true h
  omega
end Go.Proofs.YtdibkhddhgaghaaDoor.Ob
