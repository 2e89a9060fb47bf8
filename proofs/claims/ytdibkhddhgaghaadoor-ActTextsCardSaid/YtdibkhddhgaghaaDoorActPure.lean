/- Acts and their texts (plain). -/
import Derived.Outline
import Derived.Test.YtdibkhddhgaghaaDoorPartsP
import Derived.Test.YtdibkhddhgaghaaDoorDigitPure
import Derived.KernelRfl
namespace Go.Proofs.YtdibkhddhgaghaaDoor.Ac
open Go
set_option linter.unusedVariables false
set_option linter.unusedSimpArgs false
structure ActL where
  kind : Int
  block : Int
  cell : Int
  old : Int
  nw : Int
deriving DecidableEq
def zeroA : ActL := ⟨0, 0, 0, 0, 0⟩
/-- What an act of its kind may have. -/
def want (x : ActL) : ActL := ⟨x.kind, if x.kind = 1 ∨ x.kind = 2 ∨ x.kind = 3 ∨ x.kind = 4 ∨ x.kind = 6 then x.block else 0, if 1 ≤ x.kind ∧ x.kind ≤ 5 then x.cell else 0, if x.kind = 3 then x.old else 0, if x.kind = 2 ∨ x.kind = 3 ∨ x.kind = 4 then x.nw else 0⟩
def rightA (x : ActL) : Bool := decide (0 ≤ x.cell) && decide (0 ≤ x.kind ∧ x.kind ≤ 6) && decide (x = want x) && decide (x.kind ≠ 5 ∨ 0 < x.cell)
def kw (k : Nat) : List UInt8 := match k with
  | 0 => [110, 111, 110, 101]
  | 1 => [108, 111, 97, 100]
  | 2 => [115, 116, 111, 114, 101]
  | 3 => [99, 97, 115]
  | 4 => [97, 100, 100]
  | 5 => [97, 108, 108, 111, 99]
  | 6 => [102, 114, 101, 101]
  | _ => []
/-- A word's digits. -/
def dg (z : Int) : List UInt8 := Lib.decDigits z.toNat
/-- An act's words. -/
def partsA (x : ActL) : List (List UInt8) :=
  kw x.kind.toNat :: ((if x.kind = 0 ∨ x.kind = 5 then [] else [dg x.block]) ++ (if x.kind = 0 ∨ x.kind = 6 then [] else [dg x.cell]) ++ (if x.kind = 3 then [dg x.old] else []) ++ (if x.kind = 2 ∨ x.kind = 3 ∨ x.kind = 4 then [dg x.nw] else []))
def textA (x : ActL) : List UInt8 := if rightA x then Tx.jn 32 (partsA x) else []
/-- Within the words' range. -/
structure Rng (x : ActL) : Prop where
  block : 0 ≤ x.block ∧ x.block < 18446744073709551616
  cell : x.cell < 9223372036854775808
  old : 0 ≤ x.old ∧ x.old < 18446744073709551616
  nw : 0 ≤ x.nw ∧ x.nw < 18446744073709551616
theorem right_cell {x : ActL} (h : rightA x = true) : 0 ≤ x.cell := by unfold rightA at h; simp only [Bool.and_eq_true, decide_eq_true_eq] at h; exact h.1.1.1
theorem right_kind {x : ActL} (h : rightA x = true) : x.kind = 0 ∨ x.kind = 1 ∨ x.kind = 2 ∨ x.kind = 3 ∨ x.kind = 4 ∨ x.kind = 5 ∨ x.kind = 6 := by
  unfold rightA at h; simp only [Bool.and_eq_true, decide_eq_true_eq] at h
  have := h.1.1.2; omega
theorem right_want {x : ActL} (h : rightA x = true) : x = want x := by unfold rightA at h; simp only [Bool.and_eq_true, decide_eq_true_eq] at h; exact h.1.2
/-- No blank in a word. -/
theorem kw_no (k : Nat) : (32 : UInt8) ∉ kw k := by
  unfold kw
  split <;> decide
theorem dg_no (z : Int) : (32 : UInt8) ∉ dg z := fun h => by
  have h1 := List.all_eq_true.1 (Dg.dec_facts z.toNat).1 32 h
  exact absurd h1 (by decide)
theorem parts_no (x : ActL) : ∀ p ∈ partsA x, (32 : UInt8) ∉ p := by
  intro p hp
  unfold partsA at hp
  simp only [List.mem_cons, List.mem_append] at hp
  rcases hp with rfl | ((hp | hp) | hp) | hp
  · exact kw_no _
  all_goals
    split at hp
    all_goals first
      | (simp at hp; done)
      | (simp at hp; subst hp; exact dg_no _)
theorem sp_text {x : ActL} (h : rightA x = true) : Tx.sp 32 (textA x) = partsA x := by
  unfold textA
  rw [if_pos h]
  exact Tx.sp_jn (by unfold partsA; simp) (parts_no x)
theorem text_ne {x : ActL} (h : rightA x = true) : textA x ≠ [] := by
  intro e
  have := sp_text h
  rw [e] at this
  rcases right_kind h with hk | hk | hk | hk | hk | hk | hk
  all_goals
    unfold partsA at this
    rw [hk] at this
    simp [Tx.sp, kw] at this
/-- A word's digits read back. -/
theorem word_dg {z : Int} (h0 : 0 ≤ z) (h1 : z < 18446744073709551616) : Dg.word (dg z) = (z, 0) := by
  unfold dg
  have := Dg.word_show z.toNat (by omega)
  rw [this, Int.toNat_of_nonneg h0]
theorem dg_inj {a b : Int} (ha : 0 ≤ a ∧ a < 18446744073709551616) (hb : 0 ≤ b ∧ b < 18446744073709551616) (h : dg a = dg b) : a = b := by
  have h1 := word_dg ha.1 ha.2
  rw [h, word_dg hb.1 hb.2] at h1
  exact ((Prod.mk.inj h1).1).symm
theorem kw_inj {a b : Int} (ha : a = 0 ∨ a = 1 ∨ a = 2 ∨ a = 3 ∨ a = 4 ∨ a = 5 ∨ a = 6) (hb : b = 0 ∨ b = 1 ∨ b = 2 ∨ b = 3 ∨ b = 4 ∨ b = 5 ∨ b = 6) (h : kw a.toNat = kw b.toNat) : a = b := by
  rcases ha with rfl | rfl | rfl | rfl | rfl | rfl | rfl <;> rcases hb with rfl | rfl | rfl | rfl | rfl | rfl | rfl
  all_goals first | rfl | (exfalso; revert h; decide)
/-! ### read -/
def wOk (t : ByteArray) : Bool := decide ((Dg.word t.data.toList).2 = 0)
def wV (t : ByteArray) : Int := (Dg.word t.data.toList).1
theorem wV_rng (t : ByteArray) : 0 ≤ wV t ∧ wV t < 18446744073709551616 := by
  unfold wV Dg.word
  split
  · split
    · exact ⟨by decide, by decide⟩
    · dsimp only; omega
  · exact ⟨by decide, by decide⟩
/-- The i-th number behind the first word; 0 where there is none. -/
def nAt (ws : List ByteArray) (i : Nat) : Int := match ws[i + 1]? with | some t => wV t | none => 0
theorem nAt_rng (ws : List ByteArray) (i : Nat) : 0 ≤ nAt ws i ∧ nAt ws i < 18446744073709551616 := by
  unfold nAt
  split
  · exact wV_rng _
  · exact ⟨by decide, by decide⟩
def allW (ws : List ByteArray) : Bool := ws.tail.all wOk
def cellM (z : Int) : Int := if 999999999999999999 < z then -1 else z
def cellR (z : Int) : Int := if 999999999999999999 < z then 0 else z
/-- The act of a kind that some numbers make, a cell's number made by c. -/
def build (c : Int → Int) (n : Nat → Int) (k : Nat) : ActL := match k with
  | 1 => ⟨1, n 0, c (n 1), 0, 0⟩
  | 2 => ⟨2, n 0, c (n 1), 0, n 2⟩
  | 3 => ⟨3, n 0, c (n 1), n 2, n 3⟩
  | 4 => ⟨4, n 0, c (n 1), 0, n 2⟩
  | 5 => ⟨5, 0, c (n 0), 0, 0⟩
  | 6 => ⟨6, n 0, 0, 0, 0⟩
  | _ => zeroA
def w0 (ws : List ByteArray) : List UInt8 := match ws[0]? with | some t => t.data.toList | none => []
def okM (s : ByteArray) (ws : List ByteArray) (k : Nat) : Bool := decide (kw k = w0 ws) && (allW ws && decide (ws.length ≤ 5)) && decide (textA (build cellM (nAt ws) k) = s.data.toList)
def okR (s : ByteArray) (ws : List ByteArray) (k : Nat) : Bool := rightA (build cellR (nAt ws) k) && decide (textA (build cellR (nAt ws) k) = s.data.toList)
def readM (s : ByteArray) (ws : List ByteArray) : ActL × Int := match (List.range 7).find? (okM s ws) with
  | some k => (build cellM (nAt ws) k, 0)
  | none => (zeroA, 3)
def readR (s : ByteArray) (ws : List ByteArray) : ActL × Int := if allW ws then match (List.range 7).find? (okR s ws) with
  | some k => (build cellR (nAt ws) k, 0)
  | none => (zeroA, 3) else (zeroA, 3)
/-- The act whose text s is. -/
structure Good (s : ByteArray) (x : ActL) : Prop where
  right : rightA x = true
  cell : x.cell ≤ 999999999999999999
  rng : Rng x
  text : textA x = s.data.toList
theorem cellM_le (z : Int) : cellM z ≤ 999999999999999999 := by unfold cellM; split <;> omega
theorem cellR_le (z : Int) : cellR z ≤ 999999999999999999 := by unfold cellR; split <;> omega
theorem build_ok {c : Int → Int} (hc : ∀ z, c z ≤ 999999999999999999) {ws : List ByteArray} {k : Nat} : (build c (nAt ws) k).cell ≤ 999999999999999999 ∧ Rng (build c (nAt ws) k) := by
  have r0 := nAt_rng ws 0
  have r1 := nAt_rng ws 1
  have r2 := nAt_rng ws 2
  have r3 := nAt_rng ws 3
  have h0 := hc (nAt ws 0)
  have h1 := hc (nAt ws 1)
  unfold build zeroA
  split <;> exact ⟨by dsimp only; omega, ⟨by dsimp only; omega, by dsimp only; omega, by dsimp only; omega, by dsimp only; omega⟩⟩
theorem kw_ne {k : Nat} (h : k < 7) : kw k ≠ [] := by
  match k, h with
  | 0, _ => decide
  | 1, _ => decide
  | 2, _ => decide
  | 3, _ => decide
  | 4, _ => decide
  | 5, _ => decide
  | 6, _ => decide
theorem parts_sp {s : ByteArray} {x : ActL} (h : Good s x) : (Pt.parts 32 s).map (·.data.toList) = partsA x := by
  rw [Pt.parts_data, ← h.text, sp_text h.right]
theorem wV_of {t : ByteArray} {z : Int} (h : t.data.toList = dg z) (hz : 0 ≤ z ∧ z < 18446744073709551616) : wV t = z ∧ wOk t = true := by
  unfold wV wOk
  rw [h, word_dg hz.1 hz.2]
  exact ⟨rfl, rfl⟩
theorem w0_of {ws : List ByteArray} {p : List UInt8} {r : List (List UInt8)} (h : ws.map (·.data.toList) = p :: r) : w0 ws = p := by
  cases ws with
  | nil => simp at h
  | cons t ws => simp at h; exact h.1
theorem nAt_of {ws : List ByteArray} {p : List UInt8} {r : List (List UInt8)} (h : ws.map (·.data.toList) = p :: r) {i : Nat} {z : Int} (hz : 0 ≤ z ∧ z < 18446744073709551616) (hr : r[i]? = some (dg z)) : nAt ws i = z := by
  have h1 : (ws.map (·.data.toList))[i + 1]? = some (dg z) := by rw [h]; exact hr
  rw [List.getElem?_map] at h1
  cases hq : ws[i + 1]? with
  | none => rw [hq] at h1; cases h1
  | some t =>
    rw [hq] at h1
    unfold nAt
    rw [hq]
    exact (wV_of (Option.some.inj h1) hz).1
theorem allW_of {ws : List ByteArray} {p : List UInt8} {r : List (List UInt8)} (h : ws.map (·.data.toList) = p :: r) (hr : ∀ q ∈ r, ∃ z : Int, q = dg z ∧ 0 ≤ z ∧ z < 18446744073709551616) : allW ws = true := by
  cases ws with
  | nil => simp at h
  | cons t ws =>
    simp at h
    unfold allW
    rw [List.tail_cons, List.all_eq_true]
    intro u hu
    obtain ⟨z, hz, h0, h1⟩ := hr u.data.toList (by rw [← h.2]; exact List.mem_map_of_mem hu)
    exact (wV_of hz ⟨h0, h1⟩).2
/-- Where s is an act's text: its words are the act's. -/
theorem good_words {s : ByteArray} {x : ActL} (h : Good s x) : w0 (Pt.parts 32 s) = kw x.kind.toNat ∧ allW (Pt.parts 32 s) = true ∧ (Pt.parts 32 s).length ≤ 5 ∧ build cellM (nAt (Pt.parts 32 s)) x.kind.toNat = x ∧ build cellR (nAt (Pt.parts 32 s)) x.kind.toNat = x := by
  have hp := parts_sp h
  have hc := right_cell h.right
  have hcl := h.cell
  have hw := right_want h.right
  have hk := right_kind h.right
  obtain ⟨rb, rc, ro, rn⟩ := h.rng
  obtain ⟨k, b, c, o, n⟩ := x
  dsimp only at *
  have cM : cellM c = c := by unfold cellM; rw [if_neg (by omega)]
  have cR : cellR c = c := by unfold cellR; rw [if_neg (by omega)]
  have rc' : 0 ≤ c ∧ c < 18446744073709551616 := ⟨hc, by omega⟩
  generalize Pt.parts 32 s = ws at *
  have hl : ws.length = (partsA ⟨k, b, c, o, n⟩).length := by rw [← hp, List.length_map]
  unfold want at hw
  dsimp only at hw
  simp only [ActL.mk.injEq] at hw
  obtain ⟨_, hb', hc', ho', hn'⟩ := hw
  rcases hk with rfl | rfl | rfl | rfl | rfl | rfl | rfl
  all_goals simp at hb' hc' ho' hn'
  · subst hb' hc' ho' hn'
    rw [show partsA ⟨0, 0, 0, 0, 0⟩ = [kw 0] from rfl] at hp hl
    simp only [List.length_cons, List.length_nil] at hl
    exact ⟨w0_of hp, allW_of hp (fun q hq => by simp at hq), by omega, rfl, rfl⟩
  · subst ho' hn'
    rw [show partsA ⟨1, b, c, 0, 0⟩ = [kw 1, dg b, dg c] from rfl] at hp hl
    simp only [List.length_cons, List.length_nil] at hl
    have e0 := nAt_of hp (i := 0) rb rfl
    have e1 := nAt_of hp (i := 1) rc' rfl
    refine ⟨w0_of hp, allW_of hp (fun q hq => by simp at hq; rcases hq with rfl | rfl; all_goals first | exact ⟨_, rfl, rb⟩ | exact ⟨_, rfl, rc'⟩), by omega, ?_, ?_⟩
    · show build cellM _ 1 = _; unfold build; rw [e0, e1, cM]; rfl
    · show build cellR _ 1 = _; unfold build; rw [e0, e1, cR]; rfl
  · subst ho'
    rw [show partsA ⟨2, b, c, 0, n⟩ = [kw 2, dg b, dg c, dg n] from rfl] at hp hl
    simp only [List.length_cons, List.length_nil] at hl
    have e0 := nAt_of hp (i := 0) rb rfl
    have e1 := nAt_of hp (i := 1) rc' rfl
    have e2 := nAt_of hp (i := 2) rn rfl
    refine ⟨w0_of hp, allW_of hp (fun q hq => by simp at hq; rcases hq with rfl | rfl | rfl; all_goals first | exact ⟨_, rfl, rb⟩ | exact ⟨_, rfl, rc'⟩ | exact ⟨_, rfl, rn⟩), by omega, ?_, ?_⟩
    · show build cellM _ 2 = _; unfold build; rw [e0, e1, e2, cM]; rfl
    · show build cellR _ 2 = _; unfold build; rw [e0, e1, e2, cR]; rfl
  · rw [show partsA ⟨3, b, c, o, n⟩ = [kw 3, dg b, dg c, dg o, dg n] from rfl] at hp hl
    simp only [List.length_cons, List.length_nil] at hl
    have e0 := nAt_of hp (i := 0) rb rfl
    have e1 := nAt_of hp (i := 1) rc' rfl
    have e2 := nAt_of hp (i := 2) ro rfl
    have e3 := nAt_of hp (i := 3) rn rfl
    refine ⟨w0_of hp, allW_of hp (fun q hq => by simp at hq; rcases hq with rfl | rfl | rfl | rfl; all_goals first | exact ⟨_, rfl, rb⟩ | exact ⟨_, rfl, rc'⟩ | exact ⟨_, rfl, ro⟩ | exact ⟨_, rfl, rn⟩), by omega, ?_, ?_⟩
    · show build cellM _ 3 = _; unfold build; rw [e0, e1, e2, e3, cM]; rfl
    · show build cellR _ 3 = _; unfold build; rw [e0, e1, e2, e3, cR]; rfl
  · subst ho'
    rw [show partsA ⟨4, b, c, 0, n⟩ = [kw 4, dg b, dg c, dg n] from rfl] at hp hl
    simp only [List.length_cons, List.length_nil] at hl
    have e0 := nAt_of hp (i := 0) rb rfl
    have e1 := nAt_of hp (i := 1) rc' rfl
    have e2 := nAt_of hp (i := 2) rn rfl
    refine ⟨w0_of hp, allW_of hp (fun q hq => by simp at hq; rcases hq with rfl | rfl | rfl; all_goals first | exact ⟨_, rfl, rb⟩ | exact ⟨_, rfl, rc'⟩ | exact ⟨_, rfl, rn⟩), by omega, ?_, ?_⟩
    · show build cellM _ 4 = _; unfold build; rw [e0, e1, e2, cM]; rfl
    · show build cellR _ 4 = _; unfold build; rw [e0, e1, e2, cR]; rfl
  · subst hb' ho' hn'
    rw [show partsA ⟨5, 0, c, 0, 0⟩ = [kw 5, dg c] from rfl] at hp hl
    simp only [List.length_cons, List.length_nil] at hl
    have e0 := nAt_of hp (i := 0) rc' rfl
    refine ⟨w0_of hp, allW_of hp (fun q hq => by simp at hq; subst hq; exact ⟨_, rfl, rc'⟩), by omega, ?_, ?_⟩
    · show build cellM _ 5 = _; unfold build; rw [e0, cM]; rfl
    · show build cellR _ 5 = _; unfold build; rw [e0, cR]; rfl
  · subst hc' ho' hn'
    rw [show partsA ⟨6, b, 0, 0, 0⟩ = [kw 6, dg b] from rfl] at hp hl
    simp only [List.length_cons, List.length_nil] at hl
    have e0 := nAt_of hp (i := 0) rb rfl
    refine ⟨w0_of hp, allW_of hp (fun q hq => by simp at hq; subst hq; exact ⟨_, rfl, rb⟩), by omega, ?_, ?_⟩
    · show build cellM _ 6 = _; unfold build; rw [e0]; rfl
    · show build cellR _ 6 = _; unfold build; rw [e0]; rfl
theorem good_unique {s : ByteArray} {x y : ActL} (hx : Good s x) (hy : Good s y) : x = y := by
  obtain ⟨a1, _, _, a4, _⟩ := good_words hx
  obtain ⟨b1, _, _, b4, _⟩ := good_words hy
  have hk := kw_inj (right_kind hx.right) (right_kind hy.right) (a1.symm.trans b1)
  rw [← a4, ← b4, hk]
theorem kind_lt {x : ActL} (h : rightA x = true) : x.kind.toNat < 7 := by have := right_kind h; omega
theorem okM_good {s : ByteArray} {k : Nat} (hk : k < 7) (h : okM s (Pt.parts 32 s) k = true) : Good s (build cellM (nAt (Pt.parts 32 s)) k) := by
  unfold okM at h
  simp only [Bool.and_eq_true, decide_eq_true_eq] at h
  obtain ⟨⟨h1, h2, h3⟩, h4⟩ := h
  have hr : rightA (build cellM (nAt (Pt.parts 32 s)) k) = true := by
    cases hq : rightA (build cellM (nAt (Pt.parts 32 s)) k) with
    | true => rfl
    | false =>
      exfalso
      unfold textA at h4
      rw [hq] at h4
      have hs : s.data.toList = [] := h4.symm
      have : w0 (Pt.parts 32 s) = [] := by
        refine w0_of (r := []) ?_
        rw [Pt.parts_data, hs]; rfl
      rw [this] at h1
      exact kw_ne hk h1
  obtain ⟨c1, c2⟩ := build_ok (c := cellM) cellM_le (ws := Pt.parts 32 s) (k := k)
  exact ⟨hr, c1, c2, h4⟩
theorem okR_good {s : ByteArray} {k : Nat} (h : okR s (Pt.parts 32 s) k = true) : Good s (build cellR (nAt (Pt.parts 32 s)) k) := by
  unfold okR at h
  simp only [Bool.and_eq_true, decide_eq_true_eq] at h
  obtain ⟨c1, c2⟩ := build_ok (c := cellR) cellR_le (ws := Pt.parts 32 s) (k := k)
  exact ⟨h.1, c1, c2, h.2⟩
theorem good_okM {s : ByteArray} {x : ActL} (h : Good s x) : okM s (Pt.parts 32 s) x.kind.toNat = true := by
  obtain ⟨h1, h2, h3, h4, _⟩ := good_words h
  unfold okM
  rw [h4, h1, h2, decide_eq_true h3, decide_eq_true h.text]
  simp
theorem good_okR {s : ByteArray} {x : ActL} (h : Good s x) : okR s (Pt.parts 32 s) x.kind.toNat = true := by
  obtain ⟨h1, h2, h3, _, h4⟩ := good_words h
  unfold okR
  rw [h4, h.right, decide_eq_true h.text]
  rfl
theorem readM_good {s : ByteArray} {x : ActL} (h : Good s x) : readM s (Pt.parts 32 s) = (x, 0) := by
  unfold readM
  cases hf : (List.range 7).find? (okM s (Pt.parts 32 s)) with
  | none =>
    have := List.find?_eq_none.1 hf x.kind.toNat (List.mem_range.2 (kind_lt h.right))
    exact absurd (good_okM h) this
  | some k =>
    have h1 := List.find?_some hf
    have h2 := List.mem_range.1 (List.mem_of_find?_eq_some hf)
    rw [good_unique h (okM_good h2 h1)]
theorem readR_good {s : ByteArray} {x : ActL} (h : Good s x) : readR s (Pt.parts 32 s) = (x, 0) := by
  unfold readR
  rw [if_pos (good_words h).2.1]
  cases hf : (List.range 7).find? (okR s (Pt.parts 32 s)) with
  | none =>
    have := List.find?_eq_none.1 hf x.kind.toNat (List.mem_range.2 (kind_lt h.right))
    exact absurd (good_okR h) this
  | some k =>
    have h1 := List.find?_some hf
    rw [good_unique h (okR_good h1)]
theorem readM_bad {s : ByteArray} (h : ∀ x, ¬ Good s x) : readM s (Pt.parts 32 s) = (zeroA, 3) := by
  unfold readM
  cases hf : (List.range 7).find? (okM s (Pt.parts 32 s)) with
  | none => rfl
  | some k => exact absurd (okM_good (List.mem_range.1 (List.mem_of_find?_eq_some hf)) (List.find?_some hf)) (h _)
theorem readR_bad {s : ByteArray} (h : ∀ x, ¬ Good s x) : readR s (Pt.parts 32 s) = (zeroA, 3) := by
  unfold readR
  split
  · cases hf : (List.range 7).find? (okR s (Pt.parts 32 s)) with
    | none => rfl
    | some k => exact absurd (okR_good (List.find?_some hf)) (h _)
  · rfl
/-- Both read alike. -/
theorem read_same (s : ByteArray) : readM s (Pt.parts 32 s) = readR s (Pt.parts 32 s) := by
  by_cases h : ∃ x, Good s x
  · obtain ⟨x, hx⟩ := h
    rw [readM_good hx, readR_good hx]
  · have h' : ∀ x, ¬ Good s x := fun x hx => h ⟨x, hx⟩
    rw [readM_bad h', readR_bad h']
end Go.Proofs.YtdibkhddhgaghaaDoor.Ac
