/- hist: what is printed is parsed again (plain). -/
import Derived.Test.YtdibkhddhgaghaaDoorHistPrintP
import Derived.Test.YtdibkhddhgaghaaDoorHistParseP
namespace Go.Proofs.YtdibkhddhgaghaaDoor.Hs
open Go.RowKit
set_option linter.unusedVariables false
set_option linter.unusedSimpArgs false
/-- Bytes of words: none is a blank or a line feed. -/
def Hi (l : List UInt8) : Prop := ∀ b ∈ l, 45 ≤ b.toNat
theorem hi_dec (u : Nat) : Hi (Lib.decDigits u) := fun b hb => by
  have h := List.all_eq_true.1 (Dg.dec_facts u).1 b hb
  have := (Dg.isD_iff b).1 h
  omega
theorem hi_itoa (n : Int) : Hi (ita n).data.toList := by
  show Hi (Lib.itoa n)
  unfold Lib.itoa
  split
  · intro b hb
    rcases List.mem_cons.1 hb with rfl | hb
    · decide
    · exact hi_dec _ b hb
  · exact hi_dec _
theorem hi_hex (s : ByteArray) : Hi (hxp s).data.toList := by
  show Hi (Hx.print s.data.toList)
  unfold Hx.print
  split
  · intro b hb; simp at hb; subst hb; decide
  · intro b hb
    obtain ⟨c, _, hb⟩ := List.mem_flatMap.1 hb
    have hc := c.toNat_lt
    unfold Hx.two at hb
    simp only [List.mem_cons, List.not_mem_nil, or_false] at hb
    rcases hb with rfl | rfl
    · rw [Hx.dig_toNat _ (by omega)]; split <;> omega
    · rw [Hx.dig_toNat _ (by omega)]; split <;> omega
theorem hi_bit (b : Bool) : Hi (bitB b).data.toList := by
  cases b <;> (intro c hc; simp [bitB] at hc; subst hc; decide)
theorem hi_words (c : CallL) : ∀ t ∈ word15 c ++ wordsP c.reply.pairs, Hi t.data.toList := by
  intro t ht
  rcases List.mem_append.1 ht with ht | ht
  · unfold word15 at ht
    simp only [List.mem_cons, List.not_mem_nil, or_false] at ht
    rcases ht with rfl | rfl | rfl | rfl | rfl | rfl | rfl | rfl | rfl | rfl | rfl | rfl | rfl | rfl | rfl
    all_goals first | exact hi_itoa _ | exact hi_hex _ | exact hi_bit _
  · unfold wordsP at ht
    obtain ⟨p, _, ht⟩ := List.mem_flatMap.1 ht
    simp only [List.mem_cons, List.not_mem_nil, or_false] at ht
    rcases ht with rfl | rfl <;> exact hi_hex _
/-- A line, without its end. -/
def lineJ (c : CallL) : List UInt8 := Lib.join ((word15 c ++ wordsP c.reply.pairs).map (·.data.toList)) [32]
theorem line_eq (c : CallL) : lineP c = lineJ c ++ [10] := rfl
theorem data_inj {a b : ByteArray} (h : a.data.toList = b.data.toList) : a = b := by
  obtain ⟨⟨a⟩⟩ := a
  obtain ⟨⟨b⟩⟩ := b
  simp at h
  rw [h]
theorem words_inj : ∀ {a b : List ByteArray}, a.map (·.data.toList) = b.map (·.data.toList) → a = b
  | [], [], _ => rfl
  | [], _ :: _, h => by simp at h
  | _ :: _, [], h => by simp at h
  | x :: a, y :: b, h => by
    simp only [List.map_cons, List.cons.injEq] at h
    rw [data_inj h.1, words_inj h.2]
theorem jn_words (c : CallL) : lineJ c = Tx.jn 32 ((word15 c ++ wordsP c.reply.pairs).map (·.data.toList)) := Tx.join_jn 32 _
theorem words_line (c : CallL) : words ⟨(lineJ c).toArray⟩ = word15 c ++ wordsP c.reply.pairs := by
  refine words_inj ?_
  rw [words_data]
  show Tx.sp 32 (lineJ c) = _
  rw [jn_words]
  refine Tx.sp_jn (by simp [word15]) fun p hp h32 => ?_
  obtain ⟨t, ht, rfl⟩ := List.mem_map.1 hp
  have := hi_words c t ht 32 h32
  exact absurd this (by decide)
theorem jn_hi : ∀ ps : List (List UInt8), (∀ p ∈ ps, Hi p) → (10 : UInt8) ∉ Tx.jn 32 ps
  | [], _ => by simp [Tx.jn]
  | [p], h => fun hb => absurd (h p (by simp) 10 hb) (by decide)
  | p :: q :: r, h => by
    have ih := jn_hi (q :: r) (fun x hx => h x (List.mem_cons_of_mem _ hx))
    show (10 : UInt8) ∉ p ++ 32 :: Tx.jn 32 (q :: r)
    intro hb
    rcases List.mem_append.1 hb with hb | hb
    · exact absurd (h p (by simp) 10 hb) (by decide)
    · rcases List.mem_cons.1 hb with hb | hb
      · cases hb
      · exact ih hb
theorem line_no10 (c : CallL) : (10 : UInt8) ∉ lineJ c := by
  rw [jn_words]
  refine jn_hi _ fun p hp => ?_
  obtain ⟨t, ht, rfl⟩ := List.mem_map.1 hp
  exact hi_words c t ht
/-! ### the words read -/
theorem num_ita {n a b : Int} (r : List ByteArray) (h1 : -1000000000000000000 < n) (h2 : n < 1000000000000000000) (ha : a ≤ n) (hb : n ≤ b) : num a b (ita n :: r, true) = (n, r, true) := by
  have : Dg.parse (ita n).data.toList a b = (n, 0) := by
    show Dg.parse (Lib.itoa n) a b = _
    unfold Dg.parse
    rw [if_pos (Dg.itoa_good h1 h2), Dg.itoa_num, if_neg (by omega)]
  show ((Dg.parse (ita n).data.toList a b).1, r, true && decide ((Dg.parse (ita n).data.toList a b).2 = 0)) = _
  rw [this]; rfl
theorem num_bit (b : Bool) (r : List ByteArray) : num 0 1 (bitB b :: r, true) = ((if b then 1 else 0), r, true) := by
  cases b
  · show ((Dg.parse [48] 0 1).1, r, true && decide ((Dg.parse [48] 0 1).2 = 0)) = _
    have : Dg.parse [48] 0 1 = (0, 0) := by decide
    rw [this]; rfl
  · show ((Dg.parse [49] 0 1).1, r, true && decide ((Dg.parse [49] 0 1).2 = 0)) = _
    have : Dg.parse [49] 0 1 = (1, 0) := by decide
    rw [this]; rfl
theorem txt_hex (s : ByteArray) (r : List ByteArray) : txt (hxp s :: r, true) = (s, r, true) := by
  have h : Hx.parse (hxp s).data.toList = some s.data.toList := Hx.parse_print s.data.toList
  obtain ⟨h1, h2⟩ := Hxw.out_some h
  show (Hxw.out (hxp s), r, true && decide (Hxw.err (hxp s) = 0)) = _
  rw [h1, h2]
  rfl
/-- Numbers of at most 18 digits. -/
structure Nums (c : CallL) : Prop where
  thread : -1000000000000000000 < c.thread ∧ c.thread < 1000000000000000000
  index : -1000000000000000000 < c.index ∧ c.index < 1000000000000000000
  kind : -1000000000000000000 < c.op.kind ∧ c.op.kind < 1000000000000000000
  begin_ : -1000000000000000000 < c.begin_ ∧ c.begin_ < 1000000000000000000
  end_ : -1000000000000000000 < c.end_ ∧ c.end_ < 1000000000000000000
  err : -1000000000000000000 < c.reply.err ∧ c.reply.err < 1000000000000000000
  n : -1000000000000000000 < c.reply.n ∧ c.reply.n < 1000000000000000000
  few : c.reply.pairs.length < 1000000000
theorem rd_line {c : CallL} (h : Nums c) (r : List ByteArray) : rdLine (word15 c ++ r, true) = (({ c with reply := { c.reply with pairs := [] } }, (c.reply.pairs.length : Int)), (r, true)) := by
  obtain ⟨ct, ci, ⟨ok, okey, oval, oold⟩, cb, ce, cd, ⟨re, rh, rd, rv, rn, rp⟩⟩ := c
  obtain ⟨⟨a1, b1⟩, ⟨a2, b2⟩, ⟨a3, b3⟩, ⟨a4, b4⟩, ⟨a5, b5⟩, ⟨a6, b6⟩, ⟨a7, b7⟩, hf⟩ := h
  dsimp only at *
  unfold rdLine word15 far
  dsimp only
  simp only [List.cons_append, List.nil_append]
  rw [num_ita _ a1 b1 (by omega) (by omega)]
  dsimp only
  rw [num_ita _ a2 b2 (by omega) (by omega)]
  dsimp only
  rw [num_ita _ a3 b3 (by omega) (by omega)]
  dsimp only
  rw [txt_hex]
  dsimp only
  rw [txt_hex]
  dsimp only
  rw [txt_hex]
  dsimp only
  rw [num_ita _ a4 b4 (by omega) (by omega)]
  dsimp only
  rw [num_ita _ a5 b5 (by omega) (by omega)]
  dsimp only
  rw [num_bit]
  dsimp only
  rw [num_ita _ a6 b6 (by omega) (by omega)]
  dsimp only
  rw [num_bit]
  dsimp only
  rw [num_bit]
  dsimp only
  rw [txt_hex]
  dsimp only
  rw [num_ita _ a7 b7 (by omega) (by omega)]
  dsimp only
  rw [num_ita _ (by omega) (by omega) (by omega) (by omega)]
  dsimp only
  cases cd <;> cases rh <;> cases rd <;> rfl
theorem wordsP_drop {ps : List Pr} {k : Nat} {p : Pr} (h : ps[k]? = some p) : wordsP (ps.drop k) = hxp p.1 :: hxp p.2 :: wordsP (ps.drop (k + 1)) := by
  obtain ⟨hk, rfl⟩ := List.getElem?_eq_some_iff.1 h
  rw [List.drop_eq_getElem_cons hk]
  rfl
theorem pairs_back (ps : List Pr) : ∀ k, k ≤ ps.length → pairsM k (wordsP ps, true) = (ps.take k, (wordsP (ps.drop k), true))
  | 0, _ => by rfl
  | k + 1, h => by
    obtain ⟨p, hp⟩ : ∃ p, ps[k]? = some p := ⟨_, List.getElem?_eq_getElem (by omega)⟩
    unfold pairsM
    rw [pairs_back ps k (by omega)]
    dsimp only
    rw [wordsP_drop hp, txt_hex]
    dsimp only
    rw [txt_hex, List.take_add_one, hp]
    rfl
theorem call_back {c : CallL} (h : Nums c) : callM ⟨(lineJ c).toArray⟩ = (c, true) := by
  have hr := rd_line h (wordsP c.reply.pairs)
  have hl := wordsP_len c.reply.pairs
  unfold callM
  dsimp only
  rw [words_line, hr]
  dsimp only
  rw [if_pos ⟨rfl, by omega, by rw [hl]; omega⟩, hl, show 2 * c.reply.pairs.length / 2 = c.reply.pairs.length by omega, pairs_back _ _ (Nat.le_refl _), List.take_length]
/-- What is left of a text after k calls. -/
def rest (l : List CallL) : ByteArray := ⟨(printM l).toArray⟩
theorem cut_rest (c : CallL) (l : List CallL) : cutL (rest (c :: l)) = (lineJ c, printM l, true) := by
  unfold cutL rest
  show Lib.cut (printM (c :: l)) [10] = _
  have : printM (c :: l) = lineJ c ++ 10 :: printM l := by
    unfold printM
    rw [List.flatMap_cons, line_eq, List.append_assoc]; rfl
  rw [this]
  exact Tx.cut_hit (line_no10 c)
theorem rest_ne (c : CallL) (l : List CallL) : ¬ (rest (c :: l)).size = 0 := by
  show ¬ (printM (c :: l)).toArray.size = 0
  rw [List.size_toArray]
  unfold printM
  rw [List.flatMap_cons, line_eq]
  simp
theorem parse_rest : ∀ (l : List CallL) (n : Nat) (out : List CallL), (∀ c ∈ l, Nums c) → parseL (rest l).size (rest l) n out = fin (out ++ l)
  | [], n, out, _ => by rw [parseL_nil _ _ _ _ (by rfl), List.append_nil]
  | c :: l, n, out, h => by
    have hc := call_back (h c (by simp))
    have hcut := cut_rest c l
    rw [parseL_go (rest_ne c l) (by rw [hcut]) (by rw [hcut]; show (callM ⟨(lineJ c).toArray⟩).2 = true; rw [hc]), hcut]
    show parseL (rest l).size (rest l) (n + 1) (out ++ [(callM ⟨(lineJ c).toArray⟩).1]) = _
    rw [hc, parse_rest l (n + 1) _ (fun x hx => h x (List.mem_cons_of_mem _ hx)), List.append_assoc]
    rfl
theorem print_parse (l : List CallL) (h : ∀ c ∈ l, Nums c) : parseM (rest l) = fin l := by
  unfold parseM
  rw [parse_rest l 0 [] h]; rfl
/-! ### what may be, has short numbers and texts -/
theorem alone_nums {c : CallL} (h : alone c = true) : Nums c ∧ textsOk c = true ∧ c.reply.pairs.length ≤ 1000 := by
  unfold alone wit mt at h
  simp only [Bool.and_eq_true, decide_eq_true_eq] at h
  obtain ⟨⟨⟨⟨⟨⟨⟨⟨⟨h1, h2⟩, h3⟩, h4⟩, h5⟩, h6⟩, h7⟩, h8⟩, h9⟩, _⟩ := h
  exact ⟨⟨by omega, by omega, by omega, by omega, by omega, by omega, by omega, by omega⟩, h3, h9⟩
theorem alone_pok {c : CallL} (h : alone c = true) : Pok c := by
  obtain ⟨hn, ht, hf⟩ := alone_nums h
  unfold textsOk at ht
  simp only [Bool.and_eq_true, decide_eq_true_eq, List.all_eq_true] at ht
  obtain ⟨⟨⟨⟨t1, t2⟩, t3⟩, t4⟩, t5⟩ := ht
  have h1 := hn.thread
  have h2 := hn.index
  have h3 := hn.kind
  have h4 := hn.begin_
  have h5 := hn.end_
  have h6 := hn.err
  have h7 := hn.n
  refine ⟨⟨?_, ?_, ?_, ?_, ?_, ?_, ?_⟩, ⟨by omega, by omega, by omega, by omega⟩, by omega, fun p hp => ?_⟩
  all_goals first | (unfold rng; omega) | skip
  have := t5 p hp
  exact ⟨by have := this.1; omega, by have := this.2; omega⟩
theorem right_alone {l : List CV} (h : rightM l = true) : ∀ q ∈ l, alone q.1 = true := by
  intro q hq
  obtain ⟨j, hj⟩ := List.mem_iff_getElem?.1 hq
  have hl := (List.getElem?_eq_some_iff.1 hj).1
  exact goes_alone (goesUp_at hj h hl)
theorem right_back {l : List CV} (h : rightM l = true) : parseM (rest (l.map (·.1))) = (l.map (·.1), 0, 0) := by
  rw [print_parse _ (fun c hc => by obtain ⟨q, hq, rfl⟩ := List.mem_map.1 hc; exact (alone_nums (right_alone h q hq)).1)]
  unfold fin
  rw [← rightM_fst, h]; rfl
end Go.Proofs.YtdibkhddhgaghaaDoor.Hs
