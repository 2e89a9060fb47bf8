/- hist.Print: what it computes (plain); small contracts. -/
import Derived.Test.YtdibkhddhgaghaaDoorHistCall
import Derived.Test.YtdibkhddhgaghaaDoorDigitPrint
import Derived.Test.YtdibkhddhgaghaaDoorStrBuild
import Derived.Test.YtdibkhddhgaghaaDoorBelTail
namespace Go.Proofs.YtdibkhddhgaghaaDoor.Hs
open Go.RowKit
set_option linter.unusedVariables false
set_option linter.unusedSimpArgs false
def ita (n : Int) : ByteArray := ⟨(Lib.itoa n).toArray⟩
def hxp (s : ByteArray) : ByteArray := ⟨(Hx.print s.data.toList).toArray⟩
def bitB (b : Bool) : ByteArray := if b then ⟨#[49]⟩ else ⟨#[48]⟩
def word15 (c : CallL) : List ByteArray := [ita c.thread, ita c.index, ita c.op.kind, hxp c.op.key, hxp c.op.value, hxp c.op.old, ita c.begin_, ita c.end_, bitB c.done, ita c.reply.err, bitB c.reply.had, bitB c.reply.did, hxp c.reply.value, ita c.reply.n, ita (c.reply.pairs.length : Int)]
def wordsP (l : List Pr) : List ByteArray := l.flatMap fun p => [hxp p.1, hxp p.2]
def wordsL (c : CallL) (k : Nat) : List ByteArray := word15 c ++ wordsP (c.reply.pairs.take k)
def lineP (c : CallL) : List UInt8 := Lib.join ((word15 c ++ wordsP c.reply.pairs).map (·.data.toList)) [32] ++ [10]
def printM (l : List CallL) : List UInt8 := l.flatMap lineP
def rng (n : Int) : Prop := -9223372036854775808 ≤ n ∧ n ≤ 9223372036854775807
/-- What the printer asks of a call. -/
structure Pok (c : CallL) : Prop where
  ints : rng c.thread ∧ rng c.index ∧ rng c.op.kind ∧ rng c.begin_ ∧ rng c.end_ ∧ rng c.reply.err ∧ rng c.reply.n
  texts : c.op.key.size ≤ 1048576 ∧ c.op.value.size ≤ 1048576 ∧ c.op.old.size ≤ 1048576 ∧ c.reply.value.size ≤ 1048576
  few : c.reply.pairs.length ≤ 2000
  pairs : ∀ p ∈ c.reply.pairs, p.1.size ≤ 1048576 ∧ p.2.size ≤ 1048576
theorem wordsP_len (l : List Pr) : (wordsP l).length = 2 * l.length := by
  induction l with
  | nil => rfl
  | cons p l ih => unfold wordsP at ih ⊢; rw [List.flatMap_cons, List.length_append, ih]; simp; omega
theorem wordsL_len (c : CallL) (k : Nat) (h : k ≤ c.reply.pairs.length) : (wordsL c k).length = 15 + 2 * k := by
  unfold wordsL
  rw [List.length_append, wordsP_len, List.length_take, Nat.min_eq_left h]; rfl
theorem wordsL_all (c : CallL) : wordsL c c.reply.pairs.length = word15 c ++ wordsP c.reply.pairs := by unfold wordsL; rw [List.take_length]
theorem wordsL_snoc {c : CallL} {k : Nat} {p : Pr} (h : c.reply.pairs[k]? = some p) : wordsL c (k + 1) = wordsL c k ++ [hxp p.1, hxp p.2] := by
  unfold wordsL wordsP
  rw [List.take_add_one, h]
  simp
theorem itoa_len (n : Int) (h : rng n) : (ita n).size ≤ 100 := by
  unfold rng at h
  show (Lib.itoa n).toArray.size ≤ _
  rw [List.size_toArray]
  unfold Lib.itoa
  split
  · have := Dg.dec_len 20 n.natAbs (by omega) (by omega)
    rw [List.length_cons]; omega
  · have := Dg.dec_len 20 n.toNat (by omega) (by omega)
    omega
theorem hxp_len (s : ByteArray) : (hxp s).size ≤ 2 * s.size + 1 := by
  show (Hx.print s.data.toList).toArray.size ≤ _
  rw [List.size_toArray, ← DgW.size_list s]
  exact Hx.length_print _
theorem bit_len (b : Bool) : (bitB b).size ≤ 100 := by cases b <;> decide
theorem words_bound {c : CallL} (h : Pok c) : ∀ t ∈ word15 c ++ wordsP c.reply.pairs, t.size ≤ 2097153 := by
  intro t ht
  obtain ⟨⟨i1, i2, i3, i4, i5, i6, i7⟩, ⟨t1, t2, t3, t4⟩, few, hp⟩ := h
  rcases List.mem_append.1 ht with ht | ht
  · unfold word15 at ht
    simp only [List.mem_cons, List.not_mem_nil, or_false] at ht
    rcases ht with rfl | rfl | rfl | rfl | rfl | rfl | rfl | rfl | rfl | rfl | rfl | rfl | rfl | rfl | rfl
    all_goals first
      | (have := bit_len c.done; omega)
      | (have := bit_len c.reply.had; omega)
      | (have := bit_len c.reply.did; omega)
      | (have := itoa_len c.thread i1; omega)
      | (have := itoa_len c.index i2; omega)
      | (have := itoa_len c.op.kind i3; omega)
      | (have := itoa_len c.begin_ i4; omega)
      | (have := itoa_len c.end_ i5; omega)
      | (have := itoa_len c.reply.err i6; omega)
      | (have := itoa_len c.reply.n i7; omega)
      | (have := itoa_len (c.reply.pairs.length : Int) ⟨by omega, by omega⟩; omega)
      | (have := hxp_len c.op.key; omega)
      | (have := hxp_len c.op.value; omega)
      | (have := hxp_len c.op.old; omega)
      | (have := hxp_len c.reply.value; omega)
  · unfold wordsP at ht
    obtain ⟨p, hpm, ht⟩ := List.mem_flatMap.1 ht
    have h2 := hp p hpm
    simp only [List.mem_cons, List.not_mem_nil, or_false] at ht
    rcases ht with rfl | rfl
    · have := hxp_len p.1; omega
    · have := hxp_len p.2; omega
theorem jn_len (B : Nat) : ∀ ps : List (List UInt8), (∀ p ∈ ps, p.length ≤ B) → (Tx.jn 32 ps).length ≤ ps.length * (B + 1)
  | [], _ => by simp [Tx.jn]
  | [p], h => by have := h p (by simp); simp [Tx.jn]; omega
  | p :: q :: r, h => by
    have h1 := h p (by simp)
    have h2 := jn_len B (q :: r) (fun x hx => h x (List.mem_cons_of_mem _ hx))
    show (p ++ 32 :: Tx.jn 32 (q :: r)).length ≤ _
    rw [List.length_append, List.length_cons]
    simp only [List.length_cons] at h2 ⊢
    rw [Nat.add_mul (r.length + 1) 1]
    omega
theorem join_bound {c : CallL} (h : Pok c) : (Lib.join ((word15 c ++ wordsP c.reply.pairs).map (·.data.toList)) [32]).length ≤ 8500000000 := by
  rw [Tx.join_jn]
  have h1 := jn_len 2097153 ((word15 c ++ wordsP c.reply.pairs).map (·.data.toList)) (fun p hp => by
    obtain ⟨t, ht, rfl⟩ := List.mem_map.1 hp
    have := words_bound h t ht
    rw [DgW.size_list]; exact this)
  have h2 : ((word15 c ++ wordsP c.reply.pairs).map (·.data.toList)).length ≤ 4015 := by
    have h3 := wordsL_len c _ (Nat.le_refl _)
    rw [wordsL_all] at h3
    have h4 := h.few
    rw [List.length_map]; omega
  have h3 := Nat.mul_le_mul_right 2097154 h2
  omega
theorem printM_snoc {l : List CallL} {k : Nat} {c : CallL} (h : l[k]? = some c) : printM (l.take (k + 1)) = printM (l.take k) ++ lineP c := by
  unfold printM; rw [List.take_add_one, h]; simp
theorem print_len : ∀ (l : List CallL), (∀ c ∈ l, Pok c) → (printM l).length ≤ l.length * 8500000001
  | [], _ => by simp [printM]
  | c :: l, h => by
    have h1 := join_bound (h c (by simp))
    have h2 := print_len l (fun x hx => h x (List.mem_cons_of_mem _ hx))
    unfold printM at h2 ⊢
    rw [List.flatMap_cons, List.length_append]
    have : (lineP c).length = (Lib.join ((word15 c ++ wordsP c.reply.pairs).map (·.data.toList)) [32]).length + 1 := by unfold lineP; rw [List.length_append]; rfl
    rw [List.length_cons, Nat.add_mul]
    omega
theorem bit_any (b : Bool) (w : World) : Calls Tryd.prog 56 #[.bool b] w fun e w' => e = .returned (.string (bitB b)) ∧ w' = w := by
  cases b <;> (go_enter Tryd.func56, Tryd.ntmps56; go_wp2_with fail; go_ret; exact ⟨rfl, rfl⟩)
abbrev IsB (B b : Nat) (l : List UInt8) (w : World) : Prop := Lib.IsBuilder 91 5 B b (Lib.byteCells l) w
theorem builder_below {B b : Nat} {p : Value} {bs : List Value} {w w' : World} (h : Lib.BuilderAt 91 5 B b p bs w) (hb : Below w.heap.size w w') : Lib.BuilderAt 91 5 B b p bs w' := by
  have hlt := h.lt
  obtain ⟨hB, v, hbk, hown, hne⟩ := h
  exact ⟨hB, v, (hb.block b hlt).trans hbk, own_fr hown (S := fun _ => False) (Fr.of_below hb) (fun _ _ => id), hne⟩
theorem isB_below {B b : Nat} {l : List UInt8} {w w' : World} (h : IsB B b l w) (hb : Below w.heap.size w w') : IsB B b l w' := by
  rcases h with h | h
  · exact Or.inl (builder_below h hb)
  · exact Or.inr (builder_below h hb)
/-- A row of texts. -/
def strs (l : List ByteArray) : List Value := l.map Value.string
theorem infoS : (Tryd.prog.info? 9).map (fun i => (i.zero, i.size, i.bytes)) = some (some (.string ⟨#[]⟩), 1, 16) := by kernel_rfl
/-- What the world must have for the printer. -/
structure Vars (w : World) : Prop where
  pow : DgP.Pow w
  tab : Hxw.Tab w
theorem Vars.below {w w' : World} (h : Vars w) (hb : Below w.heap.size w w') : Vars w' := ⟨DgP.pow_below h.pow hb, h.tab.below hb⟩
end Go.Proofs.YtdibkhddhgaghaaDoor.Hs
