/- hist.Parse: what it computes (plain), and the slice of calls that it makes. -/
import Derived.Test.YtdibkhddhgaghaaDoorHistRight
import Derived.Test.YtdibkhddhgaghaaDoorHistCall
namespace Go.Proofs.YtdibkhddhgaghaaDoor.Hs
open Go.RowKit
set_option linter.unusedVariables false
set_option linter.unusedSimpArgs false
theorem parse_bound (l : List UInt8) (a b : Int) : -1000000000000000000 < (Dg.parse l a b).1 ∧ (Dg.parse l a b).1 < 1000000000000000000 := by
  unfold Dg.parse
  split
  · rename_i h
    split
    · exact ⟨by decide, by decide⟩
    · exact Dg.num_bound h
  · exact ⟨by decide, by decide⟩
theorem num_bd (a b : Int) (s : St) : -1000000000000000000 < (num a b s).1 ∧ (num a b s).1 < 1000000000000000000 := parse_bound _ _ _
theorem nxt_len (s : St) : (nxt s).2.1.length ≤ s.1.length := by
  obtain ⟨l, f⟩ := s
  cases l with
  | nil => exact Nat.le_refl _
  | cons t r => exact Nat.le_succ _
theorem num_len (a b : Int) (s : St) : (num a b s).2.1.length ≤ s.1.length := nxt_len s
theorem txt_len (s : St) : (txt s).2.1.length ≤ s.1.length := nxt_len s
theorem rd_len (s : St) : (rdLine s).2.1.length ≤ s.1.length := by
  unfold rdLine
  dsimp only
  repeat (first | exact Nat.le_refl _ | refine Nat.le_trans (num_len _ _ _) ?_ | refine Nat.le_trans (txt_len _) ?_)
/-- What Right asks of a call. -/
def Fit (c : CallL) : Prop := c.reply.pairs.length ≤ 100000000 ∧ (-9223372036854775808 ≤ c.op.kind ∧ c.op.kind ≤ 9223372036854775807) ∧ (-9223372036854775808 ≤ c.thread ∧ c.thread ≤ 9223372036854775807)
theorem call_fit (s : ByteArray) (h : s.size ≤ 2000000) : Fit (callM s).1 := by
  unfold callM
  dsimp only
  split
  · have h1 := rd_len (words s, true)
    have h2 := words_len s
    have h3 := words_count s
    dsimp only at h1
    refine ⟨?_, ?_, ?_⟩
    · show (pairsM _ _).1.length ≤ _
      rw [pairsM_len]; omega
    · have h := num_bd (-far) far (num (-far) far (num (-far) far (words s, true)).2).2
      show -9223372036854775808 ≤ (num (-far) far (num (-far) far (num (-far) far (words s, true)).2).2).1 ∧ (num (-far) far (num (-far) far (num (-far) far (words s, true)).2).2).1 ≤ 9223372036854775807
      omega
    · have h := num_bd (-far) far (words s, true)
      show -9223372036854775808 ≤ (num (-far) far (words s, true)).1 ∧ (num (-far) far (words s, true)).1 ≤ 9223372036854775807
      omega
  · exact ⟨by decide, ⟨by decide, by decide⟩, by decide, by decide⟩
/-! ### Right, of calls alone -/
theorem fst_at {l l' : List CV} (h : l.map (·.1) = l'.map (·.1)) (k : Nat) : l[k]?.map (·.1) = l'[k]?.map (·.1) := by
  have := congrArg (·[k]?) h
  simpa using this
theorem lastOf_congr {l l' : List CV} (h : l.map (·.1) = l'.map (·.1)) (t : Int) : ∀ k, lastOf l k t = lastOf l' k t
  | 0 => rfl
  | k + 1 => by
    unfold lastOf
    have hk := fst_at h k
    rw [lastOf_congr h t k]
    cases h1 : l[k]? <;> cases h2 : l'[k]? <;> rw [h1, h2] at hk <;> simp at hk
    all_goals first | rfl | (dsimp only; rw [hk])
theorem goes_congr {l l' : List CV} (h : l.map (·.1) = l'.map (·.1)) (k : Nat) (c : CallL) : goes l k c = goes l' k c := by
  unfold goes prevOk
  rw [lastOf_congr h]
  congr 1
  · congr 1
    cases k with
    | zero => rfl
    | succ j =>
      have hk := fst_at h j
      dsimp only
      cases h1 : l[j]? <;> cases h2 : l'[j]? <;> rw [h1, h2] at hk <;> simp at hk
      all_goals first | rfl | (dsimp only; rw [hk])
  · cases lastOf l' k c.thread with
    | none => rfl
    | some j =>
      have hk := fst_at h j
      dsimp only
      cases h1 : l[j]? <;> cases h2 : l'[j]? <;> rw [h1, h2] at hk <;> simp at hk
      all_goals first | rfl | (dsimp only; rw [hk])
theorem goesUp_congr {l l' : List CV} (h : l.map (·.1) = l'.map (·.1)) : ∀ k, goesUp l k = goesUp l' k
  | 0 => rfl
  | k + 1 => by
    unfold goesUp
    have hk := fst_at h k
    rw [goesUp_congr h k]
    cases h1 : l[k]? <;> cases h2 : l'[k]? <;> rw [h1, h2] at hk <;> simp at hk
    all_goals first | rfl | (dsimp only; rw [hk, goes_congr h])
def rightC (l : List CallL) : Bool := rightM (l.map fun c => (c, .slice none 0 0))
theorem rightM_fst (l : List CV) : rightM l = rightC (l.map (·.1)) := by
  unfold rightC rightM
  have h : l.map (·.1) = ((l.map (·.1)).map fun c => ((c, .slice none 0 0) : CV)).map (·.1) := by simp
  rw [goesUp_congr h]
  simp
/-! ### Parse -/
def cutL (s : ByteArray) : List UInt8 × List UInt8 × Bool := Lib.cut s.data.toList [10]
theorem cut_len (s : ByteArray) : (cutL s).1.length ≤ s.size ∧ ((cutL s).2.2 = true → (cutL s).2.1.length + 1 ≤ s.size) := by
  unfold cutL
  rw [← DgW.size_list s]
  rcases Tx.first_b 10 s.data.toList with h | ⟨x, y, e, h⟩
  · rw [Tx.cut_miss h]; exact ⟨Nat.le_refl _, fun h => by cases h⟩
  · rw [e, Tx.cut_hit h]; exact ⟨by simp, fun _ => by simp⟩
def fin (out : List CallL) : List CallL × Int × Int := if rightC out then (out, 0, 0) else ([], 0, 8)
def parseL : Nat → ByteArray → Nat → List CallL → List CallL × Int × Int
  | 0, _, _, out => fin out
  | f + 1, s, n, out => if s.size = 0 then fin out else if (cutL s).2.2 && (callM ⟨(cutL s).1.toArray⟩).2 then parseL f ⟨(cutL s).2.1.toArray⟩ (n + 1) (out ++ [(callM ⟨(cutL s).1.toArray⟩).1]) else ([], n, 3)
def parseM (s : ByteArray) : List CallL × Int × Int := parseL s.size s 0 []
theorem parseL_nil (f : Nat) (s : ByteArray) (n : Nat) (out : List CallL) (h : s.size = 0) : parseL f s n out = fin out := by
  cases f with
  | zero => rfl
  | succ f => unfold parseL; rw [if_pos h]
theorem parseL_fuel : ∀ (f g : Nat) (s : ByteArray) (n : Nat) (out : List CallL), s.size ≤ f → s.size ≤ g → parseL f s n out = parseL g s n out
  | 0, g, s, n, out, h, _ => by rw [parseL_nil 0 s n out (by omega), parseL_nil g s n out (by omega)]
  | f + 1, 0, s, n, out, _, h => by rw [parseL_nil _ s n out (by omega), parseL_nil 0 s n out (by omega)]
  | f + 1, g + 1, s, n, out, h1, h2 => by
    unfold parseL
    by_cases h0 : s.size = 0
    · rw [if_pos h0, if_pos h0]
    · rw [if_neg h0, if_neg h0]
      split
      · rename_i hc
        simp only [Bool.and_eq_true] at hc
        have := (cut_len s).2 hc.1
        exact parseL_fuel f g _ _ _ (by show (cutL s).2.1.toArray.size ≤ f; simp; omega) (by show (cutL s).2.1.toArray.size ≤ g; simp; omega)
      · rfl
theorem parseL_go {s : ByteArray} {n : Nat} {out : List CallL} (h0 : ¬ s.size = 0) (hc : (cutL s).2.2 = true) (hf : (callM ⟨(cutL s).1.toArray⟩).2 = true) :
    parseL s.size s n out = parseL (⟨(cutL s).2.1.toArray⟩ : ByteArray).size ⟨(cutL s).2.1.toArray⟩ (n + 1) (out ++ [(callM ⟨(cutL s).1.toArray⟩).1]) := by
  obtain ⟨f, hf'⟩ : ∃ f, s.size = f + 1 := ⟨s.size - 1, by omega⟩
  have := (cut_len s).2 hc
  rw [hf']
  conv => lhs; unfold parseL
  rw [if_neg h0, hc, hf]
  exact parseL_fuel _ _ _ _ _ (by show (cutL s).2.1.toArray.size ≤ f; simp; omega) (Nat.le_refl _)
theorem parseL_no {s : ByteArray} {n : Nat} {out : List CallL} (h0 : ¬ s.size = 0) (hc : ((cutL s).2.2 && (callM ⟨(cutL s).1.toArray⟩).2) = false) : parseL s.size s n out = ([], (n : Int), 3) := by
  obtain ⟨f, hf'⟩ : ∃ f, s.size = f + 1 := ⟨s.size - 1, by omega⟩
  rw [hf']
  conv => lhs; unfold parseL
  rw [if_neg h0, hc]; rfl
/-! ### the slice -/
def cellsC (l : List CV) : List Value := l.flatMap fun q => (callC q.1 q.2).toList
theorem cellsC_snoc (l : List CV) (q : CV) : cellsC (l ++ [q]) = cellsC l ++ (callC q.1 q.2).toList := by simp [cellsC]
theorem cellsC_at : ∀ (l : List CV) (j : Nat) (q : CV), l[j]? = some q → ∀ k u, (callC q.1 q.2)[k]? = some u → (cellsC l)[j * 15 + k]? = some u
  | [], j, q, h, _, _, _ => by simp at h
  | p :: l, 0, q, h, k, u, hk => by
    simp at h; subst h
    rw [Nat.zero_mul, Nat.zero_add]
    show ((callC p.1 p.2).toList ++ cellsC l)[k]? = some u
    have hlt : k < (callC p.1 p.2).toList.length := by
      have := (Array.getElem?_eq_some_iff.1 hk).1
      simpa using this
    rw [List.getElem?_append_left hlt]
    simpa using hk
  | p :: l, j + 1, q, h, k, u, hk => by
    have ih := cellsC_at l j q (by simpa using h) k u hk
    show ((callC p.1 p.2).toList ++ cellsC l)[(j + 1) * 15 + k]? = some u
    have hl : (callC p.1 p.2).toList.length = 15 := rfl
    rw [List.getElem?_append_right (by omega), hl, show (j + 1) * 15 + k - 15 = j * 15 + k by omega]
    exact ih
theorem own_fr' {w w' : World} {base : Nat} {e : TypeId} {size n : Nat} {v : Value} {xs : List Value} (h : w.ownsRow base e size v n xs) (hb : Below w.heap.size w w') : w'.ownsRow base e size v n xs := own_fr h (S := fun _ => False) (Fr.of_below hb) (fun _ _ => id)
/-- At a round's head. -/
structure PL (w : World) (s0 s : ByteArray) (n : Nat) (out : List CV) (ov : Value) (wr : World) : Prop where
  eq : parseM s0 = parseL s.size s n (out.map (·.1))
  sz : s.size + n ≤ s0.size
  len : out.length = n
  own : wr.ownsRow w.heap.size 50 15 ov n (cellsC out)
  prs : ∀ q ∈ out, wr.ownsRow w.heap.size 95 2 q.2 q.1.reply.pairs.length (cellsP q.1.reply.pairs) ∧ ∀ b, q.2.ownBlock = some b → ov.ownBlock ≠ some b
  fit : ∀ q ∈ out, Fit q.1
  below : Below w.heap.size w wr
theorem PL.cls {w wr : World} {s0 s : ByteArray} {n : Nat} {out : List CV} {ov : Value} (h : PL w s0 s n out ov wr) : Cls wr ov out := by
  have hl := h.len
  subst hl
  have hP : ∀ q ∈ out, Prs wr q.2 q.1.reply.pairs := fun q hq => Prs.of_owns (h.prs q hq).1 rfl
  obtain ⟨_, ⟨rfl, h0⟩ | ⟨g, cap, cur, rfl, hb, hg, hc, _, hs, ht⟩⟩ := h.own
  · have : out = [] := List.length_eq_zero_iff.1 h0
    subst this
    exact ⟨none, 0, rfl, Nat.le_refl _, fun j p hj => by simp at hj⟩
  · refine ⟨some ⟨g, 0, none⟩, cap, rfl, hc, fun j q hj => ⟨hP q (List.mem_of_getElem? hj), g, 0, rfl, lt_of_block hg, fun k u hk => ?_⟩⟩
    have hjl := (List.getElem?_eq_some_iff.1 hj).1
    have hk15 : k < 15 := (Array.getElem?_eq_some_iff.1 hk).1
    have h1 := cellsC_at out j q hj k u hk
    rw [← ht] at h1
    rw [List.getElem?_take_of_lt (by omega)] at h1
    rw [cell_of' hg, Nat.zero_add]
    simpa using h1
theorem PL.step {w wr w4 w5 : World} {s0 s s' : ByteArray} {n g cap : Nat} {out : List CV} {ov pv : Value} {c : CallL} (h : PL w s0 s n out ov wr) (hb : Below wr.heap.size wr w4)
    (hpv : w4.ownsRow wr.heap.size 95 2 pv c.reply.pairs.length (cellsP c.reply.pairs)) (hown : w5.ownsRow w.heap.size 50 15 (.slice (some ⟨g, 0, none⟩) (n + 1) cap) (n + 1) (cellsC out ++ (callC c pv).toList))
    (hg : w4.grownBy w5 ov.ownBlock) (hat : ov.ownBlock = some g ∨ g = w4.heap.size) (heq : parseM s0 = parseL s'.size s' (n + 1) (out.map (·.1) ++ [c])) (hsz : s'.size + (n + 1) ≤ s0.size) (hfit : Fit c) :
    PL w s0 s' (n + 1) (out ++ [(c, pv)]) (.slice (some ⟨g, 0, none⟩) (n + 1) cap) w5 := by
  have hov : ∀ b, ov.ownBlock = some b → b < wr.heap.size := fun b hb => (h.own.lt b hb).2
  have hbs := hb.size
  refine ⟨by rw [heq]; simp, hsz, by simp [h.len], by rw [cellsC_snoc]; exact hown, fun q hq => ?_, fun q hq => ?_, (h.below.trans (hb.mono h.below.size)).grown hg (by have := h.below.size; omega) (fun b hb => (h.own.lt b hb).1)⟩
  · rcases List.mem_append.1 hq with hq | hq
    · obtain ⟨h1, h2⟩ := h.prs q hq
      have h3 : w4.ownsRow w.heap.size 95 2 q.2 q.1.reply.pairs.length (cellsP q.1.reply.pairs) := own_fr' h1 hb
      refine ⟨h3.kept hg ?_, fun b hb e => ?_⟩
      · cases hq2 : q.2.ownBlock with
        | none => exact Or.inl rfl
        | some b => exact Or.inr (fun e => h2 b hq2 e.symm)
      · simp only [Value.ownBlock, Option.some.injEq] at e
        rcases hat with h4 | h4
        · exact h2 b hb (by rw [h4, e])
        · have := (h1.lt b hb).2; omega
    · simp only [List.mem_singleton] at hq
      subst hq
      refine ⟨World.ownsRow.mono (hpv.kept hg ?_) h.below.size, fun b hb e => ?_⟩
      · cases hq2 : pv.ownBlock with
        | none => exact Or.inl rfl
        | some b => exact Or.inr (fun e => by have := (hpv.lt b hq2).1; have := hov b e.symm; omega)
      · simp only [Value.ownBlock, Option.some.injEq] at e
        have := hpv.lt b hb
        rcases hat with h4 | h4
        · have := hov g h4; omega
        · omega
  · rcases List.mem_append.1 hq with hq | hq
    · exact h.fit q hq
    · simp only [List.mem_singleton] at hq
      subst hq
      exact hfit
theorem PL.start (w : World) (s : ByteArray) : PL w s s 0 [] (.slice none 0 0) w := ⟨rfl, Nat.le_refl _, rfl, World.ownsRow_nil _ _ _ _, fun q hq => by simp at hq, fun q hq => by simp at hq, Below.refl _ _⟩
def ParsePost (s : ByteArray) (w : World) (e : Ending) (w' : World) : Prop := ∃ ov out, e = .returned (.tuple #[ov, .int .i64 (parseM s).2.1, .int .i64 (parseM s).2.2]) ∧ Cls w' ov out ∧ out.map (·.1) = (parseM s).1 ∧ Below w.heap.size w w'
theorem cls_nil (w : World) : Cls w (.slice none 0 0) [] := ⟨none, 0, rfl, Nat.le_refl _, fun j p hj => by simp at hj⟩
theorem parse_none {s : ByteArray} {w W : World} {n e : Int} (h : parseM s = ([], n, e)) (hb : Below w.heap.size w W) : ParsePost s w (.returned (.tuple #[.slice none 0 0, .int .i64 n, .int .i64 e])) W :=
  ⟨_, [], by rw [h], cls_nil W, by rw [h]; rfl, hb⟩
end Go.Proofs.YtdibkhddhgaghaaDoor.Hs
