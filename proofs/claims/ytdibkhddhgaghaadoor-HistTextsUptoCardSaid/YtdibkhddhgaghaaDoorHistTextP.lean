/- ref41.line and Parse, plain: they read what the machine reads. -/
import Derived.Outline
import Derived.Test.YtdibkhddhgaghaaDoorHistBack
namespace Go.Proofs.YtdibkhddhgaghaaDoor.Hs
open Go.RowKit
set_option linter.unusedVariables false
set_option linter.unusedSimpArgs false
/-- A word's number, in the reference's range; and whether it is one. -/
def nmw (t : ByteArray) : Int := (Dg.parse t.data.toList (-999999999999999999) 999999999999999999).1
def nme (t : ByteArray) : Bool := decide ((Dg.parse t.data.toList (-999999999999999999) 999999999999999999).2 = 0)
theorem parse_free (l : List UInt8) {a b : Int} (ha : a ≤ -999999999999999999) (hb : 999999999999999999 ≤ b) : Dg.parse l a b = Dg.parse l (-999999999999999999) 999999999999999999 := by
  unfold Dg.parse
  by_cases h : Dg.good l = true
  · rw [if_pos h, if_pos h]
    have := Dg.num_bound h
    rw [if_neg (by omega), if_neg (by omega)]
  · rw [if_neg h, if_neg h]
theorem nmw_bd (t : ByteArray) : -1000000000000000000 < nmw t ∧ nmw t < 1000000000000000000 := parse_bound _ _ _
theorem num_far (t : ByteArray) (r : List ByteArray) (f : Bool) : num (-far) far (t :: r, f) = (nmw t, (r, f && nme t)) := by
  show ((Dg.parse t.data.toList (-far) far).1, (r, f && decide ((Dg.parse t.data.toList (-far) far).2 = 0))) = _
  rw [parse_free _ (by decide) (by decide)]; rfl
/-- A word's number within a least and a most one. -/
theorem num_in (t : ByteArray) (r : List ByteArray) (f : Bool) (a b : Int) (ha : -999999999999999999 ≤ a) (hab : a ≤ 0) (h0 : 0 ≤ b) : num a b (t :: r, f) = ((if a ≤ nmw t ∧ nmw t ≤ b then nmw t else 0), (r, f && (nme t && decide (a ≤ nmw t ∧ nmw t ≤ b)))) := by
  show ((Dg.parse t.data.toList a b).1, (r, f && decide ((Dg.parse t.data.toList a b).2 = 0))) = _
  unfold nmw nme Dg.parse
  by_cases h : Dg.good t.data.toList = true
  · have := Dg.num_bound h
    simp only [if_pos h]
    rw [if_neg (show ¬ (Dg.num t.data.toList < -999999999999999999 ∨ 999999999999999999 < Dg.num t.data.toList) by omega)]
    by_cases h2 : Dg.num t.data.toList < a ∨ b < Dg.num t.data.toList
    · rw [if_pos h2, if_neg (by dsimp only; omega)]
      have : decide (a ≤ Dg.num t.data.toList ∧ Dg.num t.data.toList ≤ b) = false := decide_eq_false (by omega)
      simp [this]
    · rw [if_neg h2, if_pos (by dsimp only; omega)]
      have : decide (a ≤ Dg.num t.data.toList ∧ Dg.num t.data.toList ≤ b) = true := decide_eq_true (by omega)
      simp [this]
  · simp only [if_neg h]
    rw [if_pos ⟨hab, h0⟩]
    simp
theorem txt_cons (t : ByteArray) (r : List ByteArray) (f : Bool) : txt (t :: r, f) = (Hxw.out t, (r, f && decide (Hxw.err t = 0))) := rfl
theorem nxt_live {s : St} (h : (nxt s).2.2 = true) : s.1.length = (nxt s).2.1.length + 1 ∧ s.2 = true := by
  obtain ⟨l, f⟩ := s
  cases l with
  | nil => cases h
  | cons t r => exact ⟨rfl, h⟩
theorem num_live {a b : Int} {s : St} (h : (num a b s).2.2 = true) : s.1.length = (num a b s).2.1.length + 1 ∧ s.2 = true := by
  have h1 : ((nxt s).2.2 && decide ((Dg.parse (nxt s).1.data.toList a b).2 = 0)) = true := h
  simp only [Bool.and_eq_true] at h1
  exact nxt_live h1.1
theorem txt_live {s : St} (h : (txt s).2.2 = true) : s.1.length = (txt s).2.1.length + 1 ∧ s.2 = true := by
  have h1 : ((nxt s).2.2 && decide (Hxw.err (nxt s).1 = 0)) = true := h
  simp only [Bool.and_eq_true] at h1
  exact nxt_live h1.1
theorem rd_live {s : St} (h : (rdLine s).2.2 = true) : 15 ≤ s.1.length := by
  unfold rdLine at h
  dsimp only at h
  obtain ⟨e14, h⟩ := num_live h
  obtain ⟨e13, h⟩ := num_live h
  obtain ⟨e12, h⟩ := txt_live h
  obtain ⟨e11, h⟩ := num_live h
  obtain ⟨e10, h⟩ := num_live h
  obtain ⟨e9, h⟩ := num_live h
  obtain ⟨e8, h⟩ := num_live h
  obtain ⟨e7, h⟩ := num_live h
  obtain ⟨e6, h⟩ := num_live h
  obtain ⟨e5, h⟩ := txt_live h
  obtain ⟨e4, h⟩ := txt_live h
  obtain ⟨e3, h⟩ := txt_live h
  obtain ⟨e2, h⟩ := num_live h
  obtain ⟨e1, h⟩ := num_live h
  obtain ⟨e0, h⟩ := num_live h
  omega
/-! ### the reference's line -/
def isT (i : Nat) : Bool := i == 3 || i == 4 || i == 5 || i == 12
def isB (i : Nat) : Bool := i == 8 || i == 10 || i == 11
def okW (i : Nat) (t : ByteArray) : Bool := if isT i then decide (Hxw.err t = 0) else nme t && (!isB i || (decide (nmw t = 0) || decide (nmw t = 1)))
def wAt (ws : List ByteArray) (i : Nat) : ByteArray := (ws[i]?).getD ⟨#[]⟩
theorem wAt_of {ws : List ByteArray} {i : Nat} {t : ByteArray} (h : ws[i]? = some t) : wAt ws i = t := by unfold wAt; rw [h]; rfl
def okTo (ws : List ByteArray) : Nat → Bool
  | 0 => true
  | k + 1 => okTo ws k && okW k (wAt ws k)
def numsTo (ws : List ByteArray) : Nat → List Int
  | 0 => []
  | k + 1 => if isT k then numsTo ws k else numsTo ws k ++ [nmw (wAt ws k)]
def txtsTo (ws : List ByteArray) : Nat → List ByteArray
  | 0 => []
  | k + 1 => if isT k then txtsTo ws k ++ [Hxw.out (wAt ws k)] else txtsTo ws k
/-- The pairs behind the fifteen words: how many are fine, and they. -/
def pok (ws : List ByteArray) : Nat → Bool
  | 0 => true
  | k + 1 => pok ws k && (decide (Hxw.err (wAt ws (15 + 2 * k)) = 0) && decide (Hxw.err (wAt ws (15 + 2 * k + 1)) = 0))
def prsTo (ws : List ByteArray) : Nat → List Pr
  | 0 => []
  | k + 1 => prsTo ws k ++ [(Hxw.out (wAt ws (15 + 2 * k)), Hxw.out (wAt ws (15 + 2 * k + 1)))]
theorem prsTo_len (ws : List ByteArray) : ∀ k, (prsTo ws k).length = k
  | 0 => rfl
  | k + 1 => by unfold prsTo; rw [List.length_append, prsTo_len ws k]; rfl
/-- The call of the fifteen words, without its pairs. -/
def headR (ws : List ByteArray) (ps : List Pr) : CallL :=
  ⟨nmw (wAt ws 0), nmw (wAt ws 1), ⟨nmw (wAt ws 2), Hxw.out (wAt ws 3), Hxw.out (wAt ws 4), Hxw.out (wAt ws 5)⟩, nmw (wAt ws 6), nmw (wAt ws 7), nmw (wAt ws 8) == 1,
    ⟨nmw (wAt ws 9), nmw (wAt ws 10) == 1, nmw (wAt ws 11) == 1, Hxw.out (wAt ws 12), nmw (wAt ws 13), ps⟩⟩
/-- Whether the fifteen words, and how many there are, are fine. -/
def fit15 (ws : List ByteArray) : Bool := decide (15 ≤ ws.length) && decide (ws.length % 2 = 1) && okTo ws 15 && decide (nmw (wAt ws 14) = (((ws.length - 15) / 2 : Nat) : Int))
def lineR (ws : List ByteArray) : CallL × Bool := if fit15 ws && pok ws ((ws.length - 15) / 2) then (headR ws (prsTo ws ((ws.length - 15) / 2)), true) else (zeroCall, false)
theorem pairs_eq (ws r : List ByteArray) (hd : ws.drop 15 = r) : ∀ k, 2 * k ≤ r.length → pairsM k (r, true) = (prsTo ws k, (r.drop (2 * k), pok ws k))
  | 0, _ => rfl
  | k + 1, h => by
    have hw : ∀ i, i < r.length → wAt ws (15 + i) = r[i]?.getD ⟨#[]⟩ := fun i hi => by
      unfold wAt
      rw [← hd, List.getElem?_drop]
    unfold pairsM
    rw [pairs_eq ws r hd k (by omega)]
    have h1 : 2 * k < r.length := by omega
    have h2 : 2 * k + 1 < r.length := by omega
    have w1 := hw _ h1
    have w2 := hw _ h2
    rw [List.getElem?_eq_getElem h1] at w1
    rw [List.getElem?_eq_getElem h2] at w2
    simp only [Option.getD_some] at w1 w2
    have hdr : r.drop (2 * k) = r[2 * k] :: r[2 * k + 1] :: r.drop (2 * (k + 1)) := by
      rw [List.drop_eq_getElem_cons h1, List.drop_eq_getElem_cons h2]; rfl
    dsimp only
    rw [hdr, txt_cons]
    dsimp only
    rw [txt_cons]
    rw [show prsTo ws (k + 1) = prsTo ws k ++ [(Hxw.out (wAt ws (15 + 2 * k)), Hxw.out (wAt ws (15 + 2 * k + 1)))] from rfl, show pok ws (k + 1) = (pok ws k && (decide (Hxw.err (wAt ws (15 + 2 * k)) = 0) && decide (Hxw.err (wAt ws (15 + 2 * k + 1)) = 0))) from rfl]
    rw [show 15 + 2 * k + 1 = 15 + (2 * k + 1) by omega, w1, w2, Bool.and_assoc]
theorem bit_fst {t : ByteArray} : (nme t && decide (0 ≤ nmw t ∧ nmw t ≤ 1)) = (nme t && (decide (nmw t = 0) || decide (nmw t = 1))) := by
  congr 1
  rw [Bool.eq_iff_iff]
  simp
  omega
theorem okW_num {i : Nat} (t : ByteArray) (h : isT i = false) (h2 : isB i = false) : okW i t = nme t := by
  unfold okW
  rw [h, h2]
  simp
theorem okW_bit {i : Nat} (t : ByteArray) (h : isT i = false) (h2 : isB i = true) : okW i t = (nme t && (decide (nmw t = 0) || decide (nmw t = 1))) := by
  unfold okW
  rw [h, h2]
  simp
theorem okW_txt {i : Nat} (t : ByteArray) (h : isT i = true) : okW i t = decide (Hxw.err t = 0) := by
  unfold okW
  rw [h]
  simp
theorem okTo14 (t0 t1 t2 t3 t4 t5 t6 t7 t8 t9 t10 t11 t12 t13 t14 : ByteArray) (r : List ByteArray) : okTo (t0 :: t1 :: t2 :: t3 :: t4 :: t5 :: t6 :: t7 :: t8 :: t9 :: t10 :: t11 :: t12 :: t13 :: t14 :: r) 14 = ((((((((((((((true && okW 0 t0) && okW 1 t1) && okW 2 t2) && okW 3 t3) && okW 4 t4) && okW 5 t5) && okW 6 t6) && okW 7 t7) && okW 8 t8) && okW 9 t9) && okW 10 t10) && okW 11 t11) && okW 12 t12) && okW 13 t13) := rfl
set_option maxHeartbeats 4000000 in
theorem line_eq_callM (s : ByteArray) : (callM s).2 = (lineR (words s)).2 ∧ ((callM s).2 = true → (callM s).1 = (lineR (words s)).1) := by
  unfold callM lineR
  generalize words s = ws
  dsimp only
  by_cases hl : 15 ≤ ws.length
  · obtain ⟨t0, t1, t2, t3, t4, t5, t6, t7, t8, t9, t10, t11, t12, t13, t14, r, rfl⟩ : ∃ t0 t1 t2 t3 t4 t5 t6 t7 t8 t9 t10 t11 t12 t13 t14 r, ws = t0 :: t1 :: t2 :: t3 :: t4 :: t5 :: t6 :: t7 :: t8 :: t9 :: t10 :: t11 :: t12 :: t13 :: t14 :: r := by
      match ws, hl with
      | t0 :: t1 :: t2 :: t3 :: t4 :: t5 :: t6 :: t7 :: t8 :: t9 :: t10 :: t11 :: t12 :: t13 :: t14 :: r, _ => exact ⟨_, _, _, _, _, _, _, _, _, _, _, _, _, _, _, _, rfl⟩
    have hrd : rdLine (t0 :: t1 :: t2 :: t3 :: t4 :: t5 :: t6 :: t7 :: t8 :: t9 :: t10 :: t11 :: t12 :: t13 :: t14 :: r, true) =
        ((⟨nmw t0, nmw t1, ⟨nmw t2, Hxw.out t3, Hxw.out t4, Hxw.out t5⟩, nmw t6, nmw t7, (if 0 ≤ nmw t8 ∧ nmw t8 ≤ 1 then nmw t8 else 0) == 1, ⟨nmw t9, (if 0 ≤ nmw t10 ∧ nmw t10 ≤ 1 then nmw t10 else 0) == 1, (if 0 ≤ nmw t11 ∧ nmw t11 ≤ 1 then nmw t11 else 0) == 1, Hxw.out t12, nmw t13, []⟩⟩, (if 0 ≤ nmw t14 ∧ nmw t14 ≤ far then nmw t14 else 0)),
          (r, okTo (t0 :: t1 :: t2 :: t3 :: t4 :: t5 :: t6 :: t7 :: t8 :: t9 :: t10 :: t11 :: t12 :: t13 :: t14 :: r) 14 && (nme t14 && decide (0 ≤ nmw t14 ∧ nmw t14 ≤ far)))) := by
      unfold rdLine
      rw [okTo14, okW_num (i := 0) t0 rfl rfl, okW_num (i := 1) t1 rfl rfl, okW_num (i := 2) t2 rfl rfl, okW_txt (i := 3) t3 rfl, okW_txt (i := 4) t4 rfl, okW_txt (i := 5) t5 rfl, okW_num (i := 6) t6 rfl rfl, okW_num (i := 7) t7 rfl rfl, okW_bit (i := 8) t8 rfl rfl, okW_num (i := 9) t9 rfl rfl, okW_bit (i := 10) t10 rfl rfl, okW_bit (i := 11) t11 rfl rfl, okW_txt (i := 12) t12 rfl, okW_num (i := 13) t13 rfl rfl]
      simp only [num_far, txt_cons, num_in _ _ _ 0 1 (by decide) (by decide) (by decide), num_in _ _ _ 0 far (by decide) (by decide) (by decide), bit_fst]
    have hlen : (t0 :: t1 :: t2 :: t3 :: t4 :: t5 :: t6 :: t7 :: t8 :: t9 :: t10 :: t11 :: t12 :: t13 :: t14 :: r).length = r.length + 15 := rfl
    have hok : okTo (t0 :: t1 :: t2 :: t3 :: t4 :: t5 :: t6 :: t7 :: t8 :: t9 :: t10 :: t11 :: t12 :: t13 :: t14 :: r) 15 = (okTo (t0 :: t1 :: t2 :: t3 :: t4 :: t5 :: t6 :: t7 :: t8 :: t9 :: t10 :: t11 :: t12 :: t13 :: t14 :: r) 14 && nme t14) := by
      show (okTo _ 14 && (nme t14 && (!isB 14 || _))) = _
      rw [show isB 14 = false from rfl]; simp
    have hb8 : okTo (t0 :: t1 :: t2 :: t3 :: t4 :: t5 :: t6 :: t7 :: t8 :: t9 :: t10 :: t11 :: t12 :: t13 :: t14 :: r) 14 = true → (0 ≤ nmw t8 ∧ nmw t8 ≤ 1) ∧ (0 ≤ nmw t10 ∧ nmw t10 ≤ 1) ∧ (0 ≤ nmw t11 ∧ nmw t11 ≤ 1) := by
      intro h
      simp only [okTo, Bool.and_eq_true] at h
      have h8 : okW 8 t8 = true := h.1.1.1.1.1.2
      have h10 : okW 10 t10 = true := h.1.1.1.2
      have h11 : okW 11 t11 = true := h.1.1.2
      unfold okW isT isB at h8 h10 h11
      simp at h8 h10 h11
      omega
    rw [hrd]
    have h14 : ∀ m : Nat, (nmw t14 = (m : Int)) → (0 ≤ nmw t14 ∧ nmw t14 ≤ far) := fun m hm => ⟨by omega, by have := nmw_bd t14; unfold far; omega⟩
    have hw14 : wAt (t0 :: t1 :: t2 :: t3 :: t4 :: t5 :: t6 :: t7 :: t8 :: t9 :: t10 :: t11 :: t12 :: t13 :: t14 :: r) 14 = t14 := rfl
    unfold fit15
    rw [hok, hlen, hw14]
    dsimp only
    cases hF : okTo (t0 :: t1 :: t2 :: t3 :: t4 :: t5 :: t6 :: t7 :: t8 :: t9 :: t10 :: t11 :: t12 :: t13 :: t14 :: r) 14 with
    | false => simp
    | true =>
      obtain ⟨g8, g10, g11⟩ := hb8 hF
      cases hn : nme t14 with
      | false => simp
      | true =>
        by_cases hm : nmw t14 = ((r.length / 2 : Nat) : Int)
        · have hfar := h14 _ hm
          by_cases hpar : r.length % 2 = 0
          · have hp := pairs_eq (t0 :: t1 :: t2 :: t3 :: t4 :: t5 :: t6 :: t7 :: t8 :: t9 :: t10 :: t11 :: t12 :: t13 :: t14 :: r) r rfl (r.length / 2) (by omega)
            have hd1 : decide (15 ≤ r.length + 15) = true := decide_eq_true (by omega)
            have hd2 : decide ((r.length + 15) % 2 = 1) = true := decide_eq_true (by omega)
            have hd3 : decide (nmw t14 = (((r.length + 15 - 15) / 2 : Nat) : Int)) = true := decide_eq_true (by rw [hm]; congr 1)
            have hd4 : decide (0 ≤ nmw t14 ∧ nmw t14 ≤ far) = true := decide_eq_true hfar
            rw [hd1, hd2, hd3, hd4, if_pos hfar]
            simp only [Bool.true_and, Bool.and_true]
            rw [if_pos ⟨trivial, hpar, hm⟩, hp, show (r.length + 15 - 15) / 2 = r.length / 2 by omega]
            dsimp only
            cases hpk : pok (t0 :: t1 :: t2 :: t3 :: t4 :: t5 :: t6 :: t7 :: t8 :: t9 :: t10 :: t11 :: t12 :: t13 :: t14 :: r) (r.length / 2) with
            | false => exact ⟨rfl, fun h => by cases h⟩
            | true =>
              refine ⟨rfl, fun _ => ?_⟩
              rw [if_pos g8, if_pos g10, if_pos g11]
              rfl
          · have hd2 : decide ((r.length + 15) % 2 = 1) = false := decide_eq_false (by omega)
            rw [hd2, if_neg (by rintro ⟨_, h, _⟩; exact hpar h)]
            simp
        · have hd3 : decide (nmw t14 = (((r.length + 15 - 15) / 2 : Nat) : Int)) = false := decide_eq_false (by rw [show (r.length + 15 - 15) / 2 = r.length / 2 by omega]; exact hm)
          rw [hd3, if_neg (by
            rintro ⟨h1, _, h2⟩
            simp only [Bool.true_and, decide_eq_true_eq] at h1
            rw [if_pos h1] at h2
            exact hm h2)]
          simp
  · have h1 : ¬ (rdLine (ws, true)).2.2 = true := fun h => hl (rd_live h)
    rw [if_neg (fun h => h1 h.1)]
    unfold fit15
    rw [decide_eq_false hl]
    simp
theorem lineR_ok {s : ByteArray} (h : (lineR (words s)).2 = true) : callM s = lineR (words s) := by
  obtain ⟨h1, h2⟩ := line_eq_callM s
  have h3 : (callM s).2 = true := h1.trans h
  exact Prod.ext (h2 h3) h1
end Go.Proofs.YtdibkhddhgaghaaDoor.Hs
