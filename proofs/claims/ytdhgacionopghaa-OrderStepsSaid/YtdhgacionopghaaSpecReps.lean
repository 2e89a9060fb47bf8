/- spec: slices of replies among a law's arguments. -/
import Derived.Test.YtdhgacionopghaaSpecDoes
import Derived.Laws.AppendOwnNone
namespace Go.Proofs.Ytdhgacionopghaa.Sp
open Go.RowKit Go.Shelf Dc DcM DcW DcI DcR DcL
set_option linter.unusedVariables false
abbrev RV := Rep × Value
/-- A slice of replies lies in w, with their pairs. -/
def Reps (w : World) (v : Value) (l : List RV) : Prop := ∃ (A : Option Addr) (cap : Nat), v = .slice A l.length cap ∧ (A = none → cap = 0) ∧
  ∀ j q, l[j]? = some q → Prs w q.2 q.1.pairs ∧ q.1.pairs.length ≤ maxLen ∧ q.2.oneCell' = true ∧ ∃ b z, A = some ⟨b, z, none⟩ ∧ b < w.heap.size ∧ ∀ k u, (repC q.1 q.2)[k]? = some u → w.cell? ⟨b, z + j * 6 + k, none⟩ = some u
def cellsR (l : List RV) : List Value := l.flatMap fun q => (repC q.1 q.2).toList
theorem cellsR_cons (q : RV) (l : List RV) : cellsR (q :: l) = (repC q.1 q.2).toList ++ cellsR l := rfl
theorem repC_len (r : Rep) (p : Value) : (repC r p).toList.length = 6 := rfl
theorem cellsR_length : ∀ l : List RV, (cellsR l).length = l.length * 6
  | [] => rfl
  | q :: l => by rw [cellsR_cons, List.length_append, repC_len, cellsR_length l, List.length_cons]; omega
theorem cellsR_get : ∀ (l : List RV) (j : Nat) (q : RV) (k : Nat) (u : Value), l[j]? = some q → (repC q.1 q.2)[k]? = some u → (cellsR l)[j * 6 + k]? = some u
  | [], j, q, k, u, h, _ => by simp at h
  | p :: l, 0, q, k, u, h, hk => by
    simp at h
    subst h
    have hk6 : k < 6 := (Array.getElem?_eq_some_iff.1 hk).1
    rw [cellsR_cons, List.getElem?_append_left (by rw [repC_len]; omega), Nat.zero_mul, Nat.zero_add]
    rwa [← Array.getElem?_toList] at hk
  | p :: l, j + 1, q, k, u, h, hk => by
    have := cellsR_get l j q k u (by simpa using h) hk
    rw [cellsR_cons, List.getElem?_append_right (by rw [repC_len]; omega), repC_len, show (j + 1) * 6 + k - 6 = j * 6 + k by omega]
    exact this
theorem newsR {w : World} {a : Addr} {n cap : Nat} {l : List RV} (h : Reps w (.slice (some a) n cap) l) : ∀ j u, (cellsR l)[j]? = some u → w.cell? (a.add j) = some u := by
  obtain ⟨A, cap', e, _, hc⟩ := h
  simp only [Value.slice.injEq] at e
  obtain ⟨rfl, rfl, rfl⟩ := e
  intro j u hj
  have hl := cellsR_length l
  have hjl := (List.getElem?_eq_some_iff.1 hj).1
  have hi : j / 6 < l.length := by omega
  obtain ⟨q, hq⟩ : ∃ q, l[j / 6]? = some q := ⟨_, List.getElem?_eq_getElem hi⟩
  obtain ⟨_, _, _, b, z, hA, _, hcell⟩ := hc _ _ hq
  simp only [Option.some.injEq] at hA
  subst hA
  have h6 : j % 6 < (repC q.1 q.2).size := Nat.mod_lt _ (by decide)
  have hg := cellsR_get l _ q (j % 6) _ hq (Array.getElem?_eq_getElem h6)
  have hcu := hcell (j % 6) _ (Array.getElem?_eq_getElem h6)
  rw [show j / 6 * 6 + j % 6 = j by omega] at hg
  have ha : (⟨b, z, none⟩ : Addr).add j = ⟨b, z + j, none⟩ := by
    unfold Addr.add
    split
    · rename_i hz; rw [hz]; rfl
    · rfl
  rw [ha]
  rw [show z + j / 6 * 6 + j % 6 = z + j by omega] at hcu
  rw [hcu, ← hg, hj]
theorem Reps.below {w w' : World} {v : Value} {l : List RV} (h : Reps w v l) (hb : Below w.heap.size w w') : Reps w' v l := by
  obtain ⟨A, cap, rfl, hA, hc⟩ := h
  refine ⟨A, cap, rfl, hA, fun j q hq => ?_⟩
  obtain ⟨h1, h2, h3, b, z, hz, hbl, hcell⟩ := hc j q hq
  exact ⟨h1.below hb, h2, h3, b, z, hz, Nat.lt_of_lt_of_le hbl hb.size, fun k u hk => (hb.cell (p := ⟨b, z + j * 6 + k, none⟩) hbl).trans (hcell k u hk)⟩
set_option maxRecDepth 100000 in
theorem open_reps {H : Type} {enc : TypeId × Value → H} {W : World} {base : Nat} {spare : Nat → Bool} {held : Bool} {r : Reach} {b0 : Nat} {v : Value} {d : DataW H} {ps : List MemPlace} (hval : Value.okWide Try.prog W r b0 37 v)
    (h : DataW.Trod enc Try.prog W base spare held 37 v d ps) : ∃ l : List RV, Reps W v l ∧ l.length ≤ maxLen := by
  have hu := Try.underlying30
  obtain ⟨A0, len0, cap0, rfl⟩ := Go.WideShapes.okWide_slice Try.underlying37 hval
  obtain ⟨fuel, h⟩ := h
  obtain ⟨A, len, cap, e, hlc, hcm, hnone, hx⟩ := Opn.open_rows' (v := .slice A0 len0 cap0) Try.underlying37 hu (by kernel_rfl) (by kernel_rfl) (by decide) h
  rw [e]
  obtain ⟨l, hl, hp⟩ := Opn.list_of (p := fun i (q : RV) => Prs W q.2 q.1.pairs ∧ q.1.pairs.length ≤ maxLen ∧ q.2.oneCell' = true ∧ ∃ b z, A = some ⟨b, z, none⟩ ∧ b < W.heap.size ∧ ∀ k u, (repC q.1 q.2)[k]? = some u → W.cell? ⟨b, z + i * 6 + k, none⟩ = some u) (len := len) (fun i hi => by
    obtain ⟨b, z, hA, hf⟩ := hx i hi
    obtain ⟨u0, y0, n0, c0, t0⟩ := hf 0 _ rfl
    obtain ⟨u1, y1, n1, c1, t1⟩ := hf 1 _ rfl
    obtain ⟨u2, y2, n2, c2, t2⟩ := hf 2 _ rfl
    obtain ⟨u3, y3, n3, c3, t3⟩ := hf 3 _ rfl
    obtain ⟨u4, y4, n4, c4, t4⟩ := hf 4 _ rfl
    obtain ⟨u5, y5, n5, c5, t5⟩ := hf 5 _ rfl
    obtain ⟨er, rfl, _⟩ := Opn.cell_int Try.underlying28 t0
    obtain ⟨b1, rfl⟩ := Opn.cell_bool Try.underlying4 t1
    obtain ⟨b2, rfl⟩ := Opn.cell_bool Try.underlying4 t2
    obtain ⟨s3, rfl, _⟩ := Opn.cell_str Try.underlying9 t3
    obtain ⟨k4, rfl, _⟩ := Opn.cell_int Try.underlying3 t4
    obtain ⟨pl, hpl, hpn⟩ := Opn.open_prs' t5
    refine ⟨(⟨er, b1, b2, s3, k4, pl⟩, u5), hpl, hpn, ?_, b, z, hA, World.block_lt_of_cell? W _ c0, fun k u hk => ?_⟩
    · obtain ⟨A5, cap5, rfl, _⟩ := hpl
      rfl
    · have h6 : k < 6 := (Array.getElem?_eq_some_iff.1 hk).1
      rcases (show k = 0 ∨ k = 1 ∨ k = 2 ∨ k = 3 ∨ k = 4 ∨ k = 5 by omega) with rfl | rfl | rfl | rfl | rfl | rfl
      · have : Value.int .i64 er = u := by simpa [repC] using hk
        rw [← this]; exact c0
      · have : Value.bool b1 = u := by simpa [repC] using hk
        rw [← this]; exact c1
      · have : Value.bool b2 = u := by simpa [repC] using hk
        rw [← this]; exact c2
      · have : Value.string s3 = u := by simpa [repC] using hk
        rw [← this]; exact c3
      · have : Value.int .i64 k4 = u := by simpa [repC] using hk
        rw [← this]; exact c4
      · have : u5 = u := by simpa [repC] using hk
        rw [← this]; exact c5)
  subst hl
  exact ⟨l, ⟨A, cap, rfl, hnone, hp⟩, Nat.le_trans hlc hcm⟩
end Go.Proofs.Ytdhgacionopghaa.Sp
