/- flush: who flushes, as a machine of plain values; and what it does at each place of the document's answer. flush: what the document's answer tells on a tape, against the machine of plain values: the looker. flush: what the document's answer tells on a tape, against the machine of plain values: the sweeper. flush: what the document's answer tells on a tape, against the machine of plain values: a whole sweep, and a whole flush. -/
import Derived.Test.YtkoebhflbhpfnaaDoorPFlushActsx5
namespace Go.Proofs.YtkoebhflbhpfnaaDoor.Fl
/-- An act. -/
structure Ac where
  k : Int
  b : Int
  c : Int
  o : Int
  n : Int
deriving DecidableEq
def Ac.zero : Ac := ⟨0, 0, 0, 0, 0⟩
def blk (w : Int) : Int := w / 8
def mrk (w : Int) : Int := w % 8
def hld (w : Int) : Bool := decide (8 ≤ w) && (decide (1 ≤ w % 8) && decide (w % 8 ≤ 4))
def mk (b m : Int) : Int := (8 * b + m) % 18446744073709551616
def groups (log : Nat) : Nat := if log ≤ 9 then 2 ^ log else 0
/-- What one who frees old tables has. -/
structure SS where
  part : Nat
  oldest : Int
  thread : Nat
  link : Int
  log : Nat
  slot : Nat
  box : Int
  freed : Nat
def sact (d : Int) (s : SS) : Option Ac :=
  if s.part = 1 then some ⟨1, d, 1, 0, 0⟩ else
  if s.part = 2 then some ⟨1, d, 0, 0, 0⟩ else
  if s.part = 3 then some ⟨3, d, 1, s.oldest, mk (blk s.oldest) 1⟩ else
  if s.part = 4 then some ⟨1, d, 2 + 2 * s.thread, 0, 0⟩ else
  if s.part = 5 then some ⟨2, d, 1, 0, s.oldest⟩ else
  if s.part = 6 then some ⟨1, blk s.oldest, 1, 0, 0⟩ else
  if s.part = 7 then some ⟨1, blk s.oldest, 0, 0, 0⟩ else
  if s.part = 8 then some ⟨1, blk s.oldest, 7 + groups s.log + s.slot, 0, 0⟩ else
  if s.part = 9 then some ⟨6, s.box, 0, 0, 0⟩ else
  if s.part = 10 then some ⟨6, blk s.oldest, 0, 0, 0⟩ else
  if s.part = 11 then some ⟨2, d, 1, 0, mk (blk s.link) 0⟩ else none
def snext (s : SS) : SS := { s with slot := s.slot + 1, part := if s.slot + 1 < 8 * groups s.log then 8 else 10 }
def stake (threads : Nat) (s : SS) (g : Int) : SS :=
  if s.part = 1 then { s with oldest := g, part := if mrk g ≠ 0 ∨ blk g = 0 then 12 else 2 } else
  if s.part = 2 then { s with part := if g = blk s.oldest then 12 else 3 } else
  if s.part = 3 then { s with thread := 0, part := if g ≠ s.oldest then 12 else 4 } else
  if s.part = 4 then { s with thread := s.thread + 1, part := if g = blk s.oldest then 5 else if s.thread + 1 = threads then 6 else 4 } else
  if s.part = 5 then { s with part := 12 } else
  if s.part = 6 then { s with link := g, part := 7 } else
  if s.part = 7 then { s with log := (min g 10).toNat, slot := 0, part := if 9 < g then 5 else 8 } else
  if s.part = 8 then (if hld g then { s with box := blk g, part := 9 } else snext s) else
  if s.part = 9 then snext s else
  if s.part = 10 then { s with part := 11 } else
  if s.part = 11 then { s with freed := s.freed + 1, part := 1 } else s
/-- What one who looks which boxes may be freed has. -/
structure RS where
  told : List Int
  at_ : Nat
  rest : List Int
def ract (d : Int) (threads : Nat) (kept : List Int) (r : RS) : Option Ac :=
  if kept = [] then none else
  if r.told.length < threads then some ⟨1, d, 3 + 2 * r.told.length, 0, 0⟩ else
  match kept[r.at_]? with
  | some k => some ⟨6, k, 0, 0, 0⟩
  | none => none
def skip (told : List Int) : List Int → Nat → List Int → Nat × List Int
  | [], i, rest => (i, rest)
  | k :: ks, i, rest => if k ∈ told then skip told ks (i + 1) (rest ++ [k]) else (i, rest)
def rest' (told : List Int) (l : List Int) : List Int := l.filter fun k => decide (k ∈ told)
/-- Behind place i, all were told. -/
def sig (kept told : List Int) (i : Nat) : RS := ⟨told, (skip told (kept.drop i) i (rest' told (kept.take i))).1, (skip told (kept.drop i) i (rest' told (kept.take i))).2⟩
def skipTo (kept : List Int) (r : RS) : RS := ⟨r.told, (skip r.told (kept.drop r.at_) r.at_ r.rest).1, (skip r.told (kept.drop r.at_) r.at_ r.rest).2⟩
def rtake (threads : Nat) (kept : List Int) (r : RS) (g : Int) : RS :=
  let r' : RS := if r.told.length < threads then { r with told := r.told ++ [g] } else { r with at_ := r.at_ + 1 }
  if r'.told.length < threads then r' else skipTo kept r'
structure MS where
  r : RS
  s : SS
/-- What does not change. -/
structure Cf where
  desk : Int
  threads : Nat
  kept : List Int
  swept : Bool
variable (C : Cf)
def fact (m : MS) : Option Ac := match ract C.desk C.threads C.kept m.r with
  | some a => some a
  | none => if C.swept then none else sact C.desk m.s
def ftake (m : MS) (g : Int) : MS := if fact C m = none then m else if ract C.desk C.threads C.kept m.r = none then { m with s := stake C.threads m.s g } else { m with r := rtake C.threads C.kept m.r g }
def s0 : SS := ⟨1, 0, 0, 0, 0, 0, 0, 0⟩
def m0 : MS := ⟨⟨[], 0, []⟩, s0⟩
def run (gs : List Int) : MS := gs.foldl (ftake C) m0
theorem run_snoc (gs : List Int) (g : Int) : run C (gs ++ [g]) = ftake C (run C gs) g := by unfold run; rw [List.foldl_append]; rfl
theorem ftake_none {m : MS} (h : fact C m = none) (g : Int) : ftake C m g = m := by unfold ftake; rw [if_pos h]
theorem run_stuck {gs : List Int} {j : Nat} (h : fact C (run C (gs.take j)) = none) : run C gs = run C (gs.take j) := by
  have key : ∀ (l : List Int) (m : MS), fact C m = none → l.foldl (ftake C) m = m := by
    intro l
    induction l with
    | nil => intro m _; rfl
    | cons g t ih => intro m hm; rw [List.foldl_cons, ftake_none C hm]; exact ih m hm
  conv => lhs; rw [← List.take_append_drop j gs]
  unfold run at *
  rw [List.foldl_append]
  exact key _ _ h
/-! ### the looker at the places of the document's answer -/
theorem ract_look {d : Int} {threads : Nat} {kept : List Int} {r : RS} (hk : kept ≠ []) (h : r.told.length < threads) : ract d threads kept r = some ⟨1, d, 3 + 2 * r.told.length, 0, 0⟩ := by
  unfold ract; rw [if_neg hk, if_pos h]
/-- At the i-th load. -/
def ldg (threads : Nat) (kept told : List Int) : RS := if told.length < threads then ⟨told, 0, []⟩ else sig kept told 0
theorem rtake_look {threads : Nat} {kept told : List Int} (h : told.length < threads) (g : Int) : rtake threads kept (ldg threads kept told) g = ldg threads kept (told ++ [g]) := by
  unfold ldg rtake
  simp only [if_pos h]
  by_cases h' : (told ++ [g]).length < threads
  · simp only [if_pos h']
  · simp only [if_neg h']
    unfold skipTo sig rest'
    simp
theorem ldg_nil {threads : Nat} (h : 0 < threads) (kept : List Int) : ldg threads kept [] = ⟨[], 0, []⟩ := by unfold ldg; rw [if_pos (by simpa using h)]
theorem sig_told {kept told : List Int} {i : Nat} {k : Int} (hk : kept[i]? = some k) (h : k ∈ told) : sig kept told i = sig kept told (i + 1) := by
  have hlt := (List.getElem?_eq_some_iff.1 hk).1
  have hd : kept.drop i = k :: kept.drop (i + 1) := by
    rw [List.drop_eq_getElem_cons hlt, (List.getElem?_eq_some_iff.1 hk).2]
  have ht : rest' told (kept.take (i + 1)) = rest' told (kept.take i) ++ [k] := by
    unfold rest'
    rw [List.take_add_one, hk, List.filter_append]
    simp [h]
  have hs : skip told (kept.drop i) i (rest' told (kept.take i)) = skip told (kept.drop (i + 1)) (i + 1) (rest' told (kept.take i) ++ [k]) := by
    rw [hd]
    conv => lhs; unfold skip
    rw [if_pos h]
  unfold sig
  rw [hs, ht]
theorem rest_not {kept told : List Int} {i : Nat} {k : Int} (hk : kept[i]? = some k) (h : k ∉ told) : rest' told (kept.take (i + 1)) = rest' told (kept.take i) := by
  unfold rest'
  rw [List.take_add_one, hk, List.filter_append]
  simp [h]
theorem rest_told {kept told : List Int} {i : Nat} {k : Int} (hk : kept[i]? = some k) (h : k ∈ told) : rest' told (kept.take (i + 1)) = rest' told (kept.take i) ++ [k] := by
  unfold rest'
  rw [List.take_add_one, hk, List.filter_append]
  simp [h]
theorem sig_at {kept told : List Int} {i : Nat} {k : Int} (hk : kept[i]? = some k) (h : k ∉ told) : sig kept told i = ⟨told, i, rest' told (kept.take i)⟩ := by
  have hlt := (List.getElem?_eq_some_iff.1 hk).1
  have hd : kept.drop i = k :: kept.drop (i + 1) := by
    rw [List.drop_eq_getElem_cons hlt, (List.getElem?_eq_some_iff.1 hk).2]
  unfold sig
  rw [hd]
  unfold skip
  rw [if_neg h]
theorem ract_free {d : Int} {threads : Nat} {kept told : List Int} {i : Nat} {k : Int} (hk : kept[i]? = some k) (h : k ∉ told) (hl : threads ≤ told.length) : ract d threads kept (sig kept told i) = some ⟨6, k, 0, 0, 0⟩ := by
  rw [sig_at hk h]
  unfold ract
  rw [if_neg (by rintro rfl; simp at hk), if_neg (by simpa using hl)]
  simp [hk]
theorem rtake_free {threads : Nat} {kept told : List Int} {i : Nat} {k : Int} (hk : kept[i]? = some k) (h : k ∉ told) (hl : threads ≤ told.length) (g : Int) : rtake threads kept (sig kept told i) g = sig kept told (i + 1) := by
  rw [sig_at hk h]
  unfold rtake
  have h0 : ¬ told.length < threads := by omega
  simp only [if_neg h0]
  unfold skipTo sig
  rw [rest_not hk h]
theorem sig_end (kept told : List Int) : sig kept told kept.length = ⟨told, kept.length, rest' told kept⟩ := by
  unfold sig
  simp [skip]
theorem ract_end {d : Int} {threads : Nat} {kept told : List Int} (hl : kept = [] ∨ threads ≤ told.length) : ract d threads kept (sig kept told kept.length) = none := by
  rw [sig_end]
  unfold ract
  by_cases h : kept = []
  · rw [if_pos h]
  · rw [if_neg h, if_neg (by rcases hl with hl | hl; exact absurd hl h; simpa using hl)]
    simp
theorem skip_some {told : List Int} {kept : List Int} {i : Nat} {k : Int} {rest : List Int} (hk : kept[i]? = some k) (h : k ∈ told) : skip told (kept.drop i) i rest = skip told (kept.drop (i + 1)) (i + 1) (rest ++ [k]) := by
  have hlt := (List.getElem?_eq_some_iff.1 hk).1
  rw [List.drop_eq_getElem_cons hlt, (List.getElem?_eq_some_iff.1 hk).2]
  conv => lhs; unfold skip
  rw [if_pos h]
theorem skip_stop {told : List Int} {kept : List Int} {i : Nat} {k : Int} {rest : List Int} (hk : kept[i]? = some k) (h : k ∉ told) : skip told (kept.drop i) i rest = (i, rest) := by
  have hlt := (List.getElem?_eq_some_iff.1 hk).1
  rw [List.drop_eq_getElem_cons hlt, (List.getElem?_eq_some_iff.1 hk).2]
  unfold skip
  rw [if_neg h]
theorem skip_end {told : List Int} {kept : List Int} {i : Nat} {rest : List Int} (hi : kept.length ≤ i) : skip told (kept.drop i) i rest = (i, rest) := by
  rw [List.drop_eq_nil_of_le hi]; rfl
theorem skip_le (told : List Int) : ∀ (l : List Int) (i : Nat) (rest : List Int), i ≤ (skip told l i rest).1 ∧ (skip told l i rest).1 ≤ i + l.length ∧ (skip told l i rest).2.length ≤ rest.length + l.length
  | [], i, rest => by simp [skip]
  | k :: ks, i, rest => by
    unfold skip
    split
    · have := skip_le told ks (i + 1) (rest ++ [k])
      simp at this ⊢
      omega
    · simp
end Go.Proofs.YtkoebhflbhpfnaaDoor.Fl
namespace Go.Proofs.YtkoebhflbhpfnaaDoor.Fl
open Go.RowKit Go.Proofs.YtkoebhflbhpfnaaDoorW.PrintWords Go.Proofs.YtkoebhflbhpfnaaDoorW.PrintLast Go.Proofs.YtkoebhflbhpfnaaDoorW.PrintMore Go.Proofs.YtkoebhflbhpfnaaDoor.PFlushActs
set_option linter.unusedVariables false
set_option linter.unusedSimpArgs false
theorem w64 {z : Int} (h : -9223372036854775808 ≤ z) (h' : z < 9223372036854775808) : wrap64 z = z := by unfold wrap64; omega
theorem w64n {n : Nat} (h : n < 9223372036854775808) : wrap64 (n : Int) = n := w64 (by omega) (by omega)
theorem rd_nat (l : List Int) (i : Nat) (h : i < l.length) : rd l (i : Int) = l[i] := by
  unfold rd
  simp [h]
/-! ### the tape -/
theorem do_got {gs : List Int} {j : Nat} (h : j < gs.length) (hl : gs.length < 1000000000) (a : Ac) : sprocketref09_Tape_Do.f gs j false 0 0 0 0 0 a.k a.b a.c a.o a.n = some (gs[j], ((j + 1 : Nat) : Int), false, 0, 0, 0, 0, 0) := by
  unfold sprocketref09_Tape_Do.f
  have h0 : wrap64 ((j : Int) + 1) = (j : Int) + 1 := w64 (by omega) (by omega)
  have h1 : wrap64 ((j : Int) + 1 - 1) = (j : Int) := by rw [w64 (by omega) (by omega)]; omega
  rw [h0, h1, if_neg (by simp), if_pos (by omega), if_pos (by omega), if_pos (by omega), rd_nat gs j h]
  simp
theorem do_end (gs : List Int) (a : Ac) : sprocketref09_Tape_Do.f gs gs.length false 0 0 0 0 0 a.k a.b a.c a.o a.n = some (0, (gs.length : Int), true, a.k, a.b, a.c, a.o, a.n) := by
  unfold sprocketref09_Tape_Do.f
  rw [if_neg (by simp), if_neg (by omega)]
theorem do_over (gs : List Int) (p k b c o n : Int) (a1 a2 a3 a4 a5 : Int) : sprocketref09_Tape_Do.f gs p true k b c o n a1 a2 a3 a4 a5 = some (0, p, true, k, b, c, o, n) := by
  unfold sprocketref09_Tape_Do.f
  rw [if_pos rfl]
/-- The machine behind j answers is m. -/
structure On (C : Cf) (gs : List Int) (j : Nat) (m : MS) : Prop where
  le : j ≤ gs.length
  eq : run C (gs.take j) = m
variable {C : Cf} {gs : List Int}
theorem On.step {j : Nat} {m : MS} (h : On C gs j m) (hj : j < gs.length) : On C gs (j + 1) (ftake C m gs[j]) := by
  refine ⟨hj, ?_⟩
  rw [List.take_add_one, List.getElem?_eq_getElem hj, Option.toList_some, run_snoc, h.eq]
theorem On.last {m : MS} (h : On C gs gs.length m) : run C gs = m := by have := h.eq; rwa [List.take_length] at this
/-- What an act on a tape does. -/
theorem do_any {j : Nat} {m : MS} (h : On C gs j m) (hl : gs.length < 1000000000) {a : Ac} (ha : fact C m = some a) :
    (∃ g, g ∈ gs ∧ sprocketref09_Tape_Do.f gs j false 0 0 0 0 0 a.k a.b a.c a.o a.n = some (g, ((j + 1 : Nat) : Int), false, 0, 0, 0, 0, 0) ∧ On C gs (j + 1) (ftake C m g)) ∨
    (sprocketref09_Tape_Do.f gs j false 0 0 0 0 0 a.k a.b a.c a.o a.n = some (0, (j : Int), true, a.k, a.b, a.c, a.o, a.n) ∧ fact C (run C gs) = some a) := by
  by_cases hj : j < gs.length
  · exact Or.inl ⟨gs[j], List.getElem_mem hj, do_got hj hl a, h.step hj⟩
  · obtain rfl : j = gs.length := by have := h.le; omega
    exact Or.inr ⟨do_end gs a, by rw [h.last]; exact ha⟩
theorem load_any {j : Nat} {m : MS} (h : On C gs j m) (hl : gs.length < 1000000000) {b c : Int} (ha : fact C m = some ⟨1, b, c, 0, 0⟩) :
    (∃ g, g ∈ gs ∧ sprocketref09_Tape_Load.f gs j false 0 0 0 0 0 b c = some (g, ((j + 1 : Nat) : Int), false, 0, 0, 0, 0, 0) ∧ On C gs (j + 1) (ftake C m g)) ∨
    (sprocketref09_Tape_Load.f gs j false 0 0 0 0 0 b c = some (0, (j : Int), true, 1, b, c, 0, 0) ∧ fact C (run C gs) = some ⟨1, b, c, 0, 0⟩) := by
  rcases do_any h hl ha with ⟨g, hg, e, o⟩ | ⟨e, o⟩
  · exact Or.inl ⟨g, hg, by unfold sprocketref09_Tape_Load.f; dsimp only at e; rw [e]; rfl, o⟩
  · exact Or.inr ⟨by unfold sprocketref09_Tape_Load.f; dsimp only at e; rw [e]; rfl, o⟩
theorem cas_any {j : Nat} {m : MS} (h : On C gs j m) (hl : gs.length < 1000000000) {b c x y : Int} (ha : fact C m = some ⟨3, b, c, x, y⟩) :
    (∃ g, g ∈ gs ∧ sprocketref09_Tape_Cas.f gs j false 0 0 0 0 0 b c x y = some (g, ((j + 1 : Nat) : Int), false, 0, 0, 0, 0, 0) ∧ On C gs (j + 1) (ftake C m g)) ∨
    (sprocketref09_Tape_Cas.f gs j false 0 0 0 0 0 b c x y = some (0, (j : Int), true, 3, b, c, x, y) ∧ fact C (run C gs) = some ⟨3, b, c, x, y⟩) := by
  rcases do_any h hl ha with ⟨g, hg, e, o⟩ | ⟨e, o⟩
  · exact Or.inl ⟨g, hg, by unfold sprocketref09_Tape_Cas.f; dsimp only at e; rw [e]; rfl, o⟩
  · exact Or.inr ⟨by unfold sprocketref09_Tape_Cas.f; dsimp only at e; rw [e]; rfl, o⟩
theorem store_any {j : Nat} {m : MS} (h : On C gs j m) (hl : gs.length < 1000000000) {b c x : Int} (ha : fact C m = some ⟨2, b, c, 0, x⟩) :
    (∃ g, g ∈ gs ∧ sprocketref09_Tape_Store.f gs j false 0 0 0 0 0 b c x = some (((j + 1 : Nat) : Int), false, 0, 0, 0, 0, 0) ∧ On C gs (j + 1) (ftake C m g)) ∨
    (sprocketref09_Tape_Store.f gs j false 0 0 0 0 0 b c x = some ((j : Int), true, 2, b, c, 0, x) ∧ fact C (run C gs) = some ⟨2, b, c, 0, x⟩) := by
  rcases do_any h hl ha with ⟨g, hg, e, o⟩ | ⟨e, o⟩
  · exact Or.inl ⟨g, hg, by unfold sprocketref09_Tape_Store.f; dsimp only at e; rw [e]; rfl, o⟩
  · exact Or.inr ⟨by unfold sprocketref09_Tape_Store.f; dsimp only at e; rw [e]; rfl, o⟩
theorem free_any {j : Nat} {m : MS} (h : On C gs j m) (hl : gs.length < 1000000000) {b : Int} (ha : fact C m = some ⟨6, b, 0, 0, 0⟩) :
    (∃ g, g ∈ gs ∧ sprocketref09_Tape_Free.f gs j false 0 0 0 0 0 b = some (((j + 1 : Nat) : Int), false, 0, 0, 0, 0, 0) ∧ On C gs (j + 1) (ftake C m g)) ∨
    (sprocketref09_Tape_Free.f gs j false 0 0 0 0 0 b = some ((j : Int), true, 6, b, 0, 0, 0) ∧ fact C (run C gs) = some ⟨6, b, 0, 0, 0⟩) := by
  rcases do_any h hl ha with ⟨g, hg, e, o⟩ | ⟨e, o⟩
  · exact Or.inl ⟨g, hg, by unfold sprocketref09_Tape_Free.f; dsimp only at e; rw [e]; rfl, o⟩
  · exact Or.inr ⟨by unfold sprocketref09_Tape_Free.f; dsimp only at e; rw [e]; rfl, o⟩
theorem load_over (gs : List Int) (p k b c o n x y : Int) : sprocketref09_Tape_Load.f gs p true k b c o n x y = some (0, p, true, k, b, c, o, n) := by unfold sprocketref09_Tape_Load.f; rw [do_over]; rfl
theorem cas_over (gs : List Int) (p k b c o n x y z u : Int) : sprocketref09_Tape_Cas.f gs p true k b c o n x y z u = some (0, p, true, k, b, c, o, n) := by unfold sprocketref09_Tape_Cas.f; rw [do_over]; rfl
theorem store_over (gs : List Int) (p k b c o n x y z : Int) : sprocketref09_Tape_Store.f gs p true k b c o n x y z = some (p, true, k, b, c, o, n) := by unfold sprocketref09_Tape_Store.f; rw [do_over]; rfl
theorem free_over (gs : List Int) (p k b c o n x : Int) : sprocketref09_Tape_Free.f gs p true k b c o n x = some (p, true, k, b, c, o, n) := by unfold sprocketref09_Tape_Free.f; rw [do_over]; rfl
/-! ### is a word told? -/
theorem has_l0 (l : List Int) (w : Int) (hl : l.length < 1000000000) : ∀ (m i : Nat), i + m = l.length → ∀ K, sprocketref24_has.l0 (m + 1 + K) l w i = some (decide (w ∈ l.drop i))
  | 0, i, h, K => by
    rw [Nat.zero_add, Nat.add_comm 1 K]
    unfold sprocketref24_has.l0
    rw [if_neg (by omega), List.drop_eq_nil_of_le (by omega)]
    simp
  | m + 1, i, h, K => by
    have e : m + 1 + 1 + K = (m + 1 + K) + 1 := by omega
    rw [e]
    unfold sprocketref24_has.l0
    have hi : i < l.length := by omega
    have h0 : wrap64 ((i : Int) + 1) = ((i + 1 : Nat) : Int) := by rw [w64 (by omega) (by omega)]; omega
    rw [if_pos (by omega), if_pos (by omega), rd_nat l i hi, h0, has_l0 l w hl m (i + 1) (by omega) K]
    have hd := List.drop_eq_getElem_cons hi
    rw [hd]
    by_cases hw : l[i] = w
    · rw [if_pos hw]; simp [hw]
    · rw [if_neg hw]
      have : w ≠ l[i] := fun e => hw e.symm
      simp only [List.mem_cons, this, false_or]
theorem has_any (l : List Int) (w : Int) (hl : l.length < 1000000000) (K : Nat) : sprocketref24_has.f (l.length + 1 + K) l w = some (decide (w ∈ l)) := by
  unfold sprocketref24_has.f
  have := has_l0 l w hl l.length 0 (by omega) K
  simpa using this
theorem box_any {i : Nat} (h : i < 64) : sprocketref14_BoxCell.f (i : Int) = some (3 + 2 * (i : Int)) := by
  unfold sprocketref14_BoxCell.f
  rw [if_neg (by omega), if_neg (by omega), w64 (z := 3 + (i : Int)) (by omega) (by omega), w64 (by omega) (by omega)]
  congr 1
  omega
theorem tab_any {i : Nat} (h : i < 64) : sprocketref14_TableCell.f (i : Int) = some (2 + 2 * (i : Int)) := by
  unfold sprocketref14_TableCell.f
  rw [if_neg (by omega), if_neg (by omega), w64 (z := 2 + (i : Int)) (by omega) (by omega), w64 (by omega) (by omega)]
  congr 1
  omega
/-! ### the looker -/
abbrev Tup := Int × Bool × Int × Int × Int × Int × Int
/-- The tape is over, at the act that comes next. -/
def Ov (C : Cf) (gs : List Int) (t : Tup) : Prop := ∃ p a, t = (p, true, a.k, a.b, a.c, a.o, a.n) ∧ fact C (run C gs) = some a
def LFin (C : Cf) (gs : List Int) (told : List Int) (s : SS) (t : List Int × Tup) : Prop := (∃ j : Nat, t = (rest' told C.kept, (j : Int), false, 0, 0, 0, 0, 0) ∧ On C gs j ⟨sig C.kept told C.kept.length, s⟩) ∨ Ov C gs t.2
theorem l1m (q : Nat) {K : Nat} {y0 y1 y2 : List Int} {y3 : Int} {y4 : List Int} {y5 : Int} {y6 : Bool} {y7 y8 y9 y10 y11 : Int} {t : List Int × Tup} (e : sprocketref24_Look.l1 K y0 y1 y2 y3 y4 y5 y6 y7 y8 y9 y10 y11 = some t) : sprocketref24_Look.l1 (q + K) y0 y1 y2 y3 y4 y5 y6 y7 y8 y9 y10 y11 = some t := by
  induction q with
  | zero => rw [Nat.zero_add]; exact e
  | succ q ih => rw [Nat.add_right_comm]; exact (sprocketref24_Look.mono_l (q + K)).2.2 _ _ _ _ _ _ _ _ _ _ _ _ _ ih
theorem look_l1_over (kept told : List Int) (hk : kept.length < 1000000000) (ht : told.length < 1000000000) (p k b c o n : Int) : ∀ (m i : Nat) (rest : List Int), i + m = kept.length → rest.length ≤ i →
    ∃ K r, sprocketref24_Look.l1 K kept told rest i gs p true k b c o n = some (r, p, true, k, b, c, o, n)
  | 0, i, rest, h, hr => ⟨1, rest, by unfold sprocketref24_Look.l1; rw [if_neg (by omega)]⟩
  | m + 1, i, rest, h, hr => by
    have hi : i < kept.length := by omega
    have h0 : wrap64 ((i : Int) + 1) = ((i + 1 : Nat) : Int) := by rw [w64 (by omega) (by omega)]; omega
    by_cases hw : kept[i] ∈ told
    · obtain ⟨K, r, e⟩ := look_l1_over kept told hk ht p k b c o n m (i + 1) (rest ++ [kept[i]]) (by omega) (by simp; omega)
      refine ⟨told.length + 1 + K + 1, r, ?_⟩
      unfold sprocketref24_Look.l1
      rw [if_pos (by omega), if_pos (by omega), rd_nat kept i hi, has_any told _ ht K, h0]
      simp only [Option.bind_some, hw, decide_true, if_true]
      rw [if_pos (by omega)]
      exact l1m (told.length + 1) e
    · obtain ⟨K, r, e⟩ := look_l1_over kept told hk ht p k b c o n m (i + 1) rest (by omega) (by omega)
      refine ⟨told.length + 1 + K + 1, r, ?_⟩
      unfold sprocketref24_Look.l1
      rw [if_pos (by omega), if_pos (by omega), rd_nat kept i hi, has_any told _ ht K, h0]
      simp only [Option.bind_some, hw, decide_false, if_false, free_over, Bool.false_eq_true]
      exact l1m (told.length + 1) e
theorem fact_of_ract {m : MS} {a : Ac} (h : ract C.desk C.threads C.kept m.r = some a) : fact C m = some a := by unfold fact; rw [h]
theorem ftake_of_ract {m : MS} {a : Ac} (h : ract C.desk C.threads C.kept m.r = some a) (g : Int) : ftake C m g = { m with r := rtake C.threads C.kept m.r g } := by
  unfold ftake
  rw [fact_of_ract h, if_neg (by simp), h, if_neg (by simp)]
theorem look_l1_on (told : List Int) (s : SS) (hk : C.kept.length < 1000000000) (ht : told.length < 1000000000) (hfull : C.threads ≤ told.length) (hl : gs.length < 1000000000) : ∀ (m i j : Nat), i + m = C.kept.length → On C gs j ⟨sig C.kept told i, s⟩ →
    ∃ K t, sprocketref24_Look.l1 K C.kept told (rest' told (C.kept.take i)) i gs j false 0 0 0 0 0 = some t ∧ LFin C gs told s t
  | 0, i, j, h, hon => by
    obtain rfl : i = C.kept.length := by omega
    refine ⟨1, (rest' told C.kept, (j : Int), false, 0, 0, 0, 0, 0), ?_, Or.inl ⟨j, rfl, hon⟩⟩
    unfold sprocketref24_Look.l1
    rw [if_neg (by omega), List.take_length]
  | m + 1, i, j, h, hon => by
    have hi : i < C.kept.length := by omega
    have hki : C.kept[i]? = some C.kept[i] := List.getElem?_eq_getElem hi
    have h0 : wrap64 ((i : Int) + 1) = ((i + 1 : Nat) : Int) := by rw [w64 (by omega) (by omega)]; omega
    have hrl : (rest' told (C.kept.take i)).length ≤ i := by
      unfold rest'
      exact Nat.le_trans (List.length_filter_le _ _) (by simp; omega)
    by_cases hw : C.kept[i] ∈ told
    · rw [sig_told hki hw] at hon
      obtain ⟨K, t, e, f⟩ := look_l1_on told s hk ht hfull hl m (i + 1) j (by omega) hon
      refine ⟨told.length + 1 + K + 1, t, ?_, f⟩
      unfold sprocketref24_Look.l1
      rw [if_pos (by omega), if_pos (by omega), rd_nat C.kept i hi, has_any told _ ht K, h0]
      simp only [Option.bind_some, hw, decide_true, if_true]
      rw [if_pos (by omega), ← rest_told hki hw]
      exact l1m (told.length + 1) e
    · have ha := ract_free (d := C.desk) hki hw hfull
      rcases free_any hon hl (fact_of_ract (m := ⟨sig C.kept told i, s⟩) ha) with ⟨g, hg, e1, o1⟩ | ⟨e1, o1⟩
      · rw [ftake_of_ract (m := ⟨sig C.kept told i, s⟩) ha] at o1
        dsimp only at o1
        rw [rtake_free hki hw hfull] at o1
        obtain ⟨K, t, e, f⟩ := look_l1_on told s hk ht hfull hl m (i + 1) (j + 1) (by omega) o1
        refine ⟨told.length + 1 + K + 1, t, ?_, f⟩
        unfold sprocketref24_Look.l1
        rw [if_pos (by omega), if_pos (by omega), rd_nat C.kept i hi, has_any told _ ht K, h0]
        simp only [Option.bind_some, hw, decide_false, if_false, e1, Bool.false_eq_true]
        rw [← rest_not hki hw]
        exact l1m (told.length + 1) e
      · obtain ⟨K, r, e⟩ := look_l1_over (gs := gs) C.kept told hk ht j 6 C.kept[i] 0 0 0 m (i + 1) (rest' told (C.kept.take i)) (by omega) (by omega)
        refine ⟨told.length + 1 + K + 1, (r, ((j : Int), true, 6, C.kept[i], 0, 0, 0)), ?_, Or.inr ⟨j, ⟨6, C.kept[i], 0, 0, 0⟩, rfl, o1⟩⟩
        unfold sprocketref24_Look.l1
        rw [if_pos (by omega), if_pos (by omega), rd_nat C.kept i hi, has_any told _ ht K, h0]
        simp only [Option.bind_some, hw, decide_false, if_false, e1, Bool.false_eq_true]
        exact l1m (told.length + 1) e
theorem look_l0_over (kept : List Int) (hk : kept.length < 1000000000) (p k b c o n : Int) (d th ke se : Int) (threads : Nat) (ht : threads ≤ 64) : ∀ (m : Nat) (told : List Int), told.length + m = threads →
    ∃ K r, sprocketref24_Look.l0 K kept told [] told.length gs p true k b c o n d th threads ke se = some (r, p, true, k, b, c, o, n)
  | 0, told, h => by
    obtain ⟨K, r, e⟩ := look_l1_over (gs := gs) kept told hk (by omega) p k b c o n kept.length 0 [] (by omega) (by simp)
    refine ⟨K + 2, r, ?_⟩
    unfold sprocketref24_Look.l0
    rw [if_neg (by omega)]
    unfold sprocketref24_Look.j1
    rw [if_neg (by simp)]
    exact e
  | m + 1, told, h => by
    by_cases hn : kept = []
    · subst hn
      refine ⟨3, [], ?_⟩
      unfold sprocketref24_Look.l0
      rw [if_pos (by omega)]
      unfold sprocketref24_Look.j1
      rw [if_neg (by simp)]
      unfold sprocketref24_Look.l1
      rw [if_neg (by simp)]
    · have hp : 0 < kept.length := List.length_pos_iff.2 hn
      obtain ⟨K, r, e⟩ := look_l0_over kept hk p k b c o n d th ke se threads ht m (told ++ [0]) (by simp; omega)
      refine ⟨K + 2, r, ?_⟩
      unfold sprocketref24_Look.l0
      rw [if_pos (by omega)]
      unfold sprocketref24_Look.j1
      have h0 : wrap64 ((told.length : Int) + 1) = ((told ++ [0]).length : Int) := by rw [w64 (by omega) (by omega)]; simp
      rw [if_pos (by simpa using hp), box_any (by omega)]
      simp only [Option.bind_some, load_over]
      rw [if_pos (by omega), h0]
      exact e
theorem look_l0_on (s : SS) (hk : C.kept.length < 1000000000) (hne : C.kept ≠ []) (h64 : C.threads ≤ 64) (hl : gs.length < 1000000000) (th ke se : Int) : ∀ (m j : Nat) (told : List Int), told.length + m = C.threads → On C gs j ⟨ldg C.threads C.kept told, s⟩ →
    ∃ K t told', sprocketref24_Look.l0 K C.kept told [] told.length gs j false 0 0 0 0 0 C.desk th C.threads ke se = some t ∧ told'.length = C.threads ∧ LFin C gs told' s t
  | 0, j, told, h, hon => by
    have hsig : ldg C.threads C.kept told = sig C.kept told 0 := by unfold ldg; rw [if_neg (by omega)]
    rw [hsig] at hon
    obtain ⟨K, t, e, f⟩ := look_l1_on told s hk (by omega) (by omega) hl C.kept.length 0 j (by omega) hon
    refine ⟨K + 2, t, told, ?_, by omega, f⟩
    unfold sprocketref24_Look.l0
    rw [if_neg (by omega)]
    unfold sprocketref24_Look.j1
    rw [if_neg (by simp)]
    exact e
  | m + 1, j, told, h, hon => by
    have hp : 0 < C.kept.length := List.length_pos_iff.2 hne
    have hlt : told.length < C.threads := by omega
    have hldg : ldg C.threads C.kept told = ⟨told, 0, []⟩ := by unfold ldg; rw [if_pos hlt]
    have ha : ract C.desk C.threads C.kept (ldg C.threads C.kept told) = some ⟨1, C.desk, 3 + 2 * told.length, 0, 0⟩ := by rw [hldg]; exact ract_look hne hlt
    have h1 : ∀ g : Int, wrap64 ((told.length : Int) + 1) = ((told ++ [g]).length : Int) := fun g => by rw [w64 (by omega) (by omega)]; simp
    rcases load_any hon hl (fact_of_ract (m := ⟨ldg C.threads C.kept told, s⟩) ha) with ⟨g, hg, e1, o1⟩ | ⟨e1, o1⟩
    · rw [ftake_of_ract (m := ⟨ldg C.threads C.kept told, s⟩) ha] at o1
      dsimp only at o1
      rw [rtake_look hlt] at o1
      obtain ⟨K, t, told', e, f1, f⟩ := look_l0_on s hk hne h64 hl th ke se m (j + 1) (told ++ [g]) (by simp; omega) o1
      refine ⟨K + 2, t, told', ?_, f1, f⟩
      unfold sprocketref24_Look.l0
      rw [if_pos (by omega)]
      unfold sprocketref24_Look.j1
      rw [if_pos (by simpa using hp), box_any (by omega)]
      simp only [Option.bind_some, e1]
      rw [if_pos (by omega), h1 g]
      exact e
    · obtain ⟨K, r, e⟩ := look_l0_over (gs := gs) C.kept hk j 1 C.desk (3 + 2 * told.length) 0 0 C.desk th ke se C.threads h64 m (told ++ [0]) (by simp; omega)
      refine ⟨K + 2, (r, ((j : Int), true, 1, C.desk, 3 + 2 * (told.length : Int), 0, 0)), told ++ List.replicate (m + 1) 0, ?_, by simp; omega, Or.inr ⟨j, ⟨1, C.desk, 3 + 2 * told.length, 0, 0⟩, rfl, o1⟩⟩
      unfold sprocketref24_Look.l0
      rw [if_pos (by omega)]
      unfold sprocketref24_Look.j1
      rw [if_pos (by simpa using hp), box_any (by omega)]
      simp only [Option.bind_some, e1]
      rw [if_pos (by omega), h1 0]
      exact e
/-- The looker, from the beginning: all that it may be told is told, and what it keeps is the machine's. -/
theorem look_on (hk : C.kept.length < 1000000000) (h1 : 1 ≤ C.threads) (h64 : C.threads ≤ 64) (hl : gs.length < 1000000000) (th ke se : Int) :
    ∃ K t told, sprocketref24_Look.f K gs 0 false 0 0 0 0 0 C.desk th C.threads ke se C.kept = some t ∧ (C.kept = [] ∨ C.threads ≤ told.length) ∧ LFin C gs told s0 t := by
  by_cases hn : C.kept = []
  · refine ⟨3, ([], (0, false, 0, 0, 0, 0, 0)), [], ?_, Or.inl hn, Or.inl ⟨0, ?_, Nat.zero_le _, ?_⟩⟩
    · unfold sprocketref24_Look.f
      rw [hn]
      unfold sprocketref24_Look.l0
      rw [if_pos (by omega)]
      unfold sprocketref24_Look.j1
      rw [if_neg (by simp)]
      unfold sprocketref24_Look.l1
      rw [if_neg (by simp)]
    · rw [hn]; rfl
    · rw [hn]; rfl
  · have hon : On C gs 0 ⟨ldg C.threads C.kept [], s0⟩ := ⟨Nat.zero_le _, by rw [ldg_nil (by omega)]; rfl⟩
    obtain ⟨K, t, told, e, f1, f⟩ := look_l0_on s0 hk hn h64 hl th ke se C.threads 0 [] (by simp) hon
    refine ⟨K, t, told, ?_, Or.inr (by omega), f⟩
    unfold sprocketref24_Look.f
    exact e
end Go.Proofs.YtkoebhflbhpfnaaDoor.Fl
namespace Go.Proofs.YtkoebhflbhpfnaaDoor.Fl
open Go.RowKit Go.Proofs.YtkoebhflbhpfnaaDoorW.PrintWords Go.Proofs.YtkoebhflbhpfnaaDoorW.PrintLast Go.Proofs.YtkoebhflbhpfnaaDoorW.PrintMore Go.Proofs.YtkoebhflbhpfnaaDoor.PFlushActs
set_option linter.unusedVariables false
set_option linter.unusedSectionVars false
set_option linter.unusedSimpArgs false
theorem lift {α : Type} {f : Nat → Option α} (h : ∀ k, LeO (f k) (f (k + 1))) (q : Nat) {K : Nat} {t : α} (e : f K = some t) : f (q + K) = some t := by
  induction q with
  | zero => rw [Nat.zero_add]; exact e
  | succ q ih => rw [Nat.add_right_comm]; exact h _ _ ih
theorem u64w {z : Int} (h : 0 ≤ z) (h' : z < 18446744073709551616) : IntKind.u64.wrap z = z := by
  simp [IntKind.wrap, IntKind.signed, IntKind.bits]
  omega
theorem block_any {w : Int} (h : 0 ≤ w) (h' : w < 18446744073709551616) : sprocketref11_Block.f w = some (blk w) := by
  unfold sprocketref11_Block.f blk
  rw [Int.tdiv_eq_ediv_of_nonneg h, u64w (by omega) (by omega)]
theorem mark_any {w : Int} (h : 0 ≤ w) (h' : w < 18446744073709551616) : sprocketref11_Mark.f w = some (mrk w) := by
  unfold sprocketref11_Mark.f mrk
  rw [Int.tmod_eq_emod_of_nonneg h, w64 (by omega) (by omega)]
theorem holds_any {w : Int} (h : 0 ≤ w) : sprocketref11_Holds.f w = some (hld w) := by
  unfold sprocketref11_Holds.f hld
  rw [Int.tmod_eq_emod_of_nonneg h]
  by_cases h1 : 8 ≤ w
  · rw [if_pos h1]
    by_cases h2 : 1 ≤ w % 8
    · rw [if_pos h2]; simp [h1, h2]
    · rw [if_neg h2]; simp [h2]
  · rw [if_neg h1]; simp [h1]
theorem make_any {b : Int} (h : 0 ≤ b) (h' : b < 2305843009213693952) : sprocketref11_Make.f b 0 = some (mk b 0) := by
  unfold sprocketref11_Make.f mk
  rw [if_neg (by decide), u64w (z := 8 * b) (by omega) (by omega)]
  have : IntKind.u64.wrap (Int.tmod 0 8) = 0 := by decide
  rw [this, u64w (by omega) (by omega), Int.emod_eq_of_lt (by omega) (by omega)]
theorem groups_12 : ∀ log : Nat, log ≤ 9 → sprocketref13_Groups.f 12 (log : Int) = some (groups log : Int)
  | 0, _ => by kernel_rfl
  | 1, _ => by kernel_rfl
  | 2, _ => by kernel_rfl
  | 3, _ => by kernel_rfl
  | 4, _ => by kernel_rfl
  | 5, _ => by kernel_rfl
  | 6, _ => by kernel_rfl
  | 7, _ => by kernel_rfl
  | 8, _ => by kernel_rfl
  | 9, _ => by kernel_rfl
theorem groups_any {log : Nat} (h : log ≤ 9) (K : Nat) : sprocketref13_Groups.f (12 + K) (log : Int) = some (groups log : Int) := by
  rw [Nat.add_comm]
  exact lift (fun k => sprocketref13_Groups.mono _ k) K (groups_12 log h)
theorem groups_le {log : Nat} (h : log ≤ 9) : groups log ≤ 512 := by
  unfold groups
  rw [if_pos h]
  exact Nat.pow_le_pow_right (n := 2) (by omega) h
theorem slot_any {log g s : Nat} (h : log ≤ 9) (hg : g < groups log) (hs : s < 8) (K : Nat) : sprocketref15_SlotCell.f (12 + K) (log : Int) (g : Int) (s : Int) = some (7 + (groups log : Int) + 8 * (g : Int) + (s : Int)) := by
  have hl := groups_le h
  unfold sprocketref15_SlotCell.f
  rw [groups_any h]
  simp only [Option.bind_some]
  rw [if_neg (by omega), if_neg (by omega), if_neg (by omega), if_neg (by omega), w64 (z := 7 + (groups log : Int)) (by omega) (by omega), w64 (z := 8 * (g : Int)) (by omega) (by omega), w64 (z := 7 + (groups log : Int) + 8 * (g : Int)) (by omega) (by omega), w64 (by omega) (by omega)]
section
variable {C : Cf} {gs : List Int} (th ke se : Int)
/-! ### the tape is over -/
theorem l0_over (p k b c o n x5 : Int) : sprocketref25_Sweep.l0 1 x5 gs p true k b c o n C.desk th C.threads ke se = some (x5, p, true, k, b, c, o, n) := by
  unfold sprocketref25_Sweep.l0
  rw [if_pos rfl]
/-- The end of a table, and of its sweep. -/
theorem l2_end_over (p k b c o n : Int) {log : Nat} (hlog : log ≤ 9) {g : Nat} (hg : groups log ≤ g) (x5 x7 x9 : Int) (h9 : 0 ≤ x9) (h9' : x9 < 18446744073709551616) :
    ∃ K n', sprocketref25_Sweep.l2 K x5 x7 x9 log g gs p true k b c o n C.desk th C.threads ke se = some (n', p, true, k, b, c, o, n) := by
  refine ⟨12 + 1 + 1, wrap64 (x5 + 1), ?_⟩
  unfold sprocketref25_Sweep.l2
  rw [w64n (by omega), groups_any hlog 1]
  simp only [Option.bind_some]
  rw [if_neg (by omega), free_over, block_any h9 h9']
  simp only [Option.bind_some]
  rw [make_any (by unfold blk; omega) (by unfold blk; omega)]
  simp only [Option.bind_some, store_over]
  exact lift (fun k => (sprocketref25_Sweep.mono_l k).1 _ _ _ _ _ _ _ _ _ _ _ _ _ _) 12 (l0_over th ke se p k b c o n _)
theorem l3_over (p k b c o n : Int) {log : Nat} (hlog : log ≤ 9) {g : Nat} (hg : g < groups log) (x5 x7 x9 : Int)
    (H : ∃ K n', sprocketref25_Sweep.l2 K x5 x7 x9 log ((g + 1 : Nat) : Int) gs p true k b c o n C.desk th C.threads ke se = some (n', p, true, k, b, c, o, n)) : ∀ (m s : Nat), s + m = 8 →
    ∃ K n', sprocketref25_Sweep.l3 K x5 x7 x9 log g s gs p true k b c o n C.desk th C.threads ke se = some (n', p, true, k, b, c, o, n)
  | 0, s, hs => by
    obtain ⟨K, n', e⟩ := H
    refine ⟨K + 1, n', ?_⟩
    have hl := groups_le hlog
    unfold sprocketref25_Sweep.l3
    have h0 : wrap64 ((g : Int) + 1) = ((g + 1 : Nat) : Int) := by rw [w64 (by omega) (by omega)]; omega
    rw [if_neg (by omega), h0]
    exact e
  | m + 1, s, hs => by
    obtain ⟨K, n', e⟩ := l3_over p k b c o n hlog hg x5 x7 x9 H m (s + 1) (by omega)
    refine ⟨12 + K + 1, n', ?_⟩
    unfold sprocketref25_Sweep.l3
    have h0 : wrap64 ((s : Int) + 1) = ((s + 1 : Nat) : Int) := by rw [w64 (by omega) (by omega)]; omega
    rw [if_pos (by omega), w64n (by omega), slot_any hlog hg (by omega) K]
    simp only [Option.bind_some, load_over]
    rw [holds_any (by omega)]
    have : hld 0 = false := by decide
    simp only [Option.bind_some, this, Bool.false_eq_true, if_false]
    rw [h0]
    exact lift (fun k => (sprocketref25_Sweep.mono_l k).2.2.2.2 _ _ _ _ _ _ _ _ _ _ _ _ _ _ _ _ _ _ _) 12 e
theorem l2_over (p k b c o n : Int) {log : Nat} (hlog : log ≤ 9) (x5 x7 x9 : Int) (h9 : 0 ≤ x9) (h9' : x9 < 18446744073709551616) : ∀ (m g : Nat), groups log ≤ g + m →
    ∃ K n', sprocketref25_Sweep.l2 K x5 x7 x9 log g gs p true k b c o n C.desk th C.threads ke se = some (n', p, true, k, b, c, o, n)
  | 0, g, hg => l2_end_over th ke se p k b c o n hlog (by omega) x5 x7 x9 h9 h9'
  | m + 1, g, hg => by
    by_cases hlt : g < groups log
    · obtain ⟨K, n', e⟩ := l3_over th ke se p k b c o n hlog hlt x5 x7 x9 (l2_over p k b c o n hlog x5 x7 x9 h9 h9' m (g + 1) (by omega)) 8 0 (by omega)
      refine ⟨12 + K + 1, n', ?_⟩
      unfold sprocketref25_Sweep.l2
      rw [w64n (by omega), groups_any hlog K]
      simp only [Option.bind_some]
      rw [if_pos (by omega)]
      exact lift (fun k => (sprocketref25_Sweep.mono_l k).2.2.2.2 _ _ _ _ _ _ _ _ _ _ _ _ _ _ _ _ _ _ _) 12 e
    · exact l2_end_over th ke se p k b c o n hlog (by omega) x5 x7 x9 h9 h9'
/-- Behind the threads. -/
theorem l1_end_over (p k b c o n : Int) (h64 : C.threads ≤ 64) (x5 x6 x7 : Int) :
    ∃ K n', sprocketref25_Sweep.l1 K x5 x6 x7 C.threads gs p true k b c o n C.desk th C.threads ke se = some (n', p, true, k, b, c, o, n) := by
  obtain ⟨K, n', e⟩ := l2_over (C := C) (gs := gs) th ke se p k b c o n (log := 0) (by omega) x5 x7 0 (by omega) (by omega) (groups 0) 0 (by omega)
  refine ⟨K + 1, n', ?_⟩
  unfold sprocketref25_Sweep.l1
  rw [if_neg (by omega)]
  simp only [load_over, Option.bind_some]
  rw [if_neg (by omega)]
  exact e
theorem l1_over (p k b c o n : Int) (h64 : C.threads ≤ 64) (x5 x6 x7 : Int) : ∀ (m i : Nat), i + m = C.threads →
    ∃ K n', sprocketref25_Sweep.l1 K x5 x6 x7 i gs p true k b c o n C.desk th C.threads ke se = some (n', p, true, k, b, c, o, n)
  | 0, i, hi => by
    obtain rfl : i = C.threads := by omega
    exact l1_end_over th ke se p k b c o n h64 x5 x6 x7
  | m + 1, i, hi => by
    obtain ⟨K, n', e⟩ := l1_over p k b c o n h64 x5 x6 x7 m (i + 1) (by omega)
    have h0 : wrap64 ((i : Int) + 1) = ((i + 1 : Nat) : Int) := by rw [w64 (by omega) (by omega)]; omega
    by_cases h7 : 0 = x7
    · refine ⟨1, x5, ?_⟩
      unfold sprocketref25_Sweep.l1
      rw [if_pos (by omega), tab_any (by omega)]
      simp only [load_over, Option.bind_some, store_over]
      rw [if_pos h7]
    · refine ⟨K + 1, n', ?_⟩
      unfold sprocketref25_Sweep.l1
      rw [if_pos (by omega), tab_any (by omega)]
      simp only [load_over, Option.bind_some, store_over]
      rw [if_neg h7, h0]
      exact e
end
/-! ### the tape goes on -/
def SFin (C : Cf) (gs : List Int) (r : RS) (t : Int × Tup) : Prop := (∃ (j : Nat) (s : SS), t.2 = ((j : Int), false, 0, 0, 0, 0, 0) ∧ On C gs j ⟨r, s⟩ ∧ sact C.desk s = none) ∨ Ov C gs t.2
section
variable {C : Cf} {gs : List Int} {r : RS} (hr : ract C.desk C.threads C.kept r = none) (hsw : C.swept = false) (hl : gs.length < 1000000000)
include hr hsw
theorem fact_s (s : SS) : fact C ⟨r, s⟩ = sact C.desk s := by unfold fact; simp only [hr, hsw]; rfl
theorem ftake_s {s : SS} {a : Ac} (h : sact C.desk s = some a) (g : Int) : ftake C ⟨r, s⟩ g = ⟨r, stake C.threads s g⟩ := by
  unfold ftake
  rw [fact_s hr hsw, h, if_neg (by simp), if_pos hr]
include hl
theorem sload {j : Nat} {s : SS} (h : On C gs j ⟨r, s⟩) {b c : Int} (ha : sact C.desk s = some ⟨1, b, c, 0, 0⟩) :
    (∃ g, g ∈ gs ∧ sprocketref09_Tape_Load.f gs j false 0 0 0 0 0 b c = some (g, ((j + 1 : Nat) : Int), false, 0, 0, 0, 0, 0) ∧ On C gs (j + 1) ⟨r, stake C.threads s g⟩) ∨
    (sprocketref09_Tape_Load.f gs j false 0 0 0 0 0 b c = some (0, (j : Int), true, 1, b, c, 0, 0) ∧ fact C (run C gs) = some ⟨1, b, c, 0, 0⟩) := by
  have := load_any h hl ((fact_s hr hsw s).trans ha)
  simp only [ftake_s hr hsw ha] at this
  exact this
theorem scas {j : Nat} {s : SS} (h : On C gs j ⟨r, s⟩) {b c x y : Int} (ha : sact C.desk s = some ⟨3, b, c, x, y⟩) :
    (∃ g, g ∈ gs ∧ sprocketref09_Tape_Cas.f gs j false 0 0 0 0 0 b c x y = some (g, ((j + 1 : Nat) : Int), false, 0, 0, 0, 0, 0) ∧ On C gs (j + 1) ⟨r, stake C.threads s g⟩) ∨
    (sprocketref09_Tape_Cas.f gs j false 0 0 0 0 0 b c x y = some (0, (j : Int), true, 3, b, c, x, y) ∧ fact C (run C gs) = some ⟨3, b, c, x, y⟩) := by
  have := cas_any h hl ((fact_s hr hsw s).trans ha)
  simp only [ftake_s hr hsw ha] at this
  exact this
theorem sstore {j : Nat} {s : SS} (h : On C gs j ⟨r, s⟩) {b c x : Int} (ha : sact C.desk s = some ⟨2, b, c, 0, x⟩) :
    (∃ g, g ∈ gs ∧ sprocketref09_Tape_Store.f gs j false 0 0 0 0 0 b c x = some (((j + 1 : Nat) : Int), false, 0, 0, 0, 0, 0) ∧ On C gs (j + 1) ⟨r, stake C.threads s g⟩) ∨
    (sprocketref09_Tape_Store.f gs j false 0 0 0 0 0 b c x = some ((j : Int), true, 2, b, c, 0, x) ∧ fact C (run C gs) = some ⟨2, b, c, 0, x⟩) := by
  have := store_any h hl ((fact_s hr hsw s).trans ha)
  simp only [ftake_s hr hsw ha] at this
  exact this
theorem sfree {j : Nat} {s : SS} (h : On C gs j ⟨r, s⟩) {b : Int} (ha : sact C.desk s = some ⟨6, b, 0, 0, 0⟩) :
    (∃ g, g ∈ gs ∧ sprocketref09_Tape_Free.f gs j false 0 0 0 0 0 b = some (((j + 1 : Nat) : Int), false, 0, 0, 0, 0, 0) ∧ On C gs (j + 1) ⟨r, stake C.threads s g⟩) ∨
    (sprocketref09_Tape_Free.f gs j false 0 0 0 0 0 b = some ((j : Int), true, 6, b, 0, 0, 0) ∧ fact C (run C gs) = some ⟨6, b, 0, 0, 0⟩) := by
  have := free_any h hl ((fact_s hr hsw s).trans ha)
  simp only [ftake_s hr hsw ha] at this
  exact this
end
/-- At slot n of the oldest table. -/
structure Bs (s : SS) (o l : Int) (log n : Nat) : Prop where
  ho : s.oldest = o
  hl : s.link = l
  hg : s.log = log
  hn : s.slot = n
  hp : s.part = if n < 8 * groups log then 8 else 10
theorem Bs.next {s s' : SS} {o l : Int} {log n : Nat} (h : Bs s o l log n) (h1 : s'.oldest = s.oldest) (h2 : s'.link = s.link) (h3 : s'.log = s.log) (h4 : s'.slot = s.slot) : Bs (snext s') o l log (n + 1) :=
  ⟨h1.trans h.ho, h2.trans h.hl, h3.trans h.hg, by show s'.slot + 1 = _; rw [h4, h.hn], by show (if s'.slot + 1 < 8 * groups s'.log then 8 else 10) = _; rw [h4, h3, h.hn, h.hg]⟩
section
variable {C : Cf} {gs : List Int} {r : RS} (hr : ract C.desk C.threads C.kept r = none) (hsw : C.swept = false) (hl : gs.length < 1000000000) (hw : ∀ g ∈ gs, 0 ≤ g ∧ g < 18446744073709551616) (h64 : C.threads ≤ 64) (th ke se : Int)
/-- From the sweep's beginning, later than j0. -/
def P0 (C : Cf) (gs : List Int) (r : RS) (th ke se : Int) (j0 : Nat) : Prop := ∀ (j : Nat) (s : SS) (x5 : Int), j0 < j → s.part = 1 → On C gs j ⟨r, s⟩ → ∃ K t, sprocketref25_Sweep.l0 K x5 gs j false 0 0 0 0 0 C.desk th C.threads ke se = some t ∧ SFin C gs r t
include hr hsw hl hw
theorem l2_end_on {j0 : Nat} (H : P0 C gs r th ke se j0) {log : Nat} (hlog : log ≤ 9) {o l : Int} (hl0 : 0 ≤ l) (hl1 : l < 18446744073709551616) (x5 : Int) {g j : Nat} {s : SS} (hg : groups log ≤ g) (hj : j0 ≤ j) (hB : Bs s o l log (8 * g)) (hon : On C gs j ⟨r, s⟩) :
    ∃ K t, sprocketref25_Sweep.l2 K x5 (blk o) l log g gs j false 0 0 0 0 0 C.desk th C.threads ke se = some t ∧ SFin C gs r t := by
  have hp : s.part = 10 := by rw [hB.hp, if_neg (by omega)]
  have ha : sact C.desk s = some ⟨6, blk o, 0, 0, 0⟩ := by unfold sact; simp [hp, hB.ho]
  rcases sfree hr hsw hl hon ha with ⟨g1, hg1, e1, o1⟩ | ⟨e1, o1⟩
  · obtain ⟨s1, hs1⟩ : ∃ s1, s1 = stake C.threads s g1 := ⟨_, rfl⟩
    have h11 : s1.part = 11 ∧ s1.link = l := by rw [hs1]; unfold stake; simp [hp, hB.hl]
    rw [← hs1] at o1
    have ha1 : sact C.desk s1 = some ⟨2, C.desk, 1, 0, mk (blk l) 0⟩ := by unfold sact; simp [h11.1, h11.2]
    rcases sstore hr hsw hl o1 ha1 with ⟨g2, hg2, e2, o2⟩ | ⟨e2, o2⟩
    · have h1 : (stake C.threads s1 g2).part = 1 := by unfold stake; simp [h11.1]
      obtain ⟨K, t, e, f⟩ := H (j + 1 + 1) _ (wrap64 (x5 + 1)) (by omega) h1 o2
      refine ⟨12 + K + 1, t, ?_, f⟩
      unfold sprocketref25_Sweep.l2
      rw [w64n (by omega), groups_any hlog K]
      simp only [Option.bind_some]
      rw [if_neg (by omega), e1, block_any hl0 hl1]
      simp only [Option.bind_some]
      rw [make_any (by unfold blk; omega) (by unfold blk; omega)]
      simp only [Option.bind_some, e2]
      exact lift (fun k => (sprocketref25_Sweep.mono_l k).1 _ _ _ _ _ _ _ _ _ _ _ _ _ _) 12 e
    · refine ⟨12 + 1 + 1, (wrap64 (x5 + 1), (((j + 1 : Nat) : Int), true, 2, C.desk, 1, 0, mk (blk l) 0)), ?_, Or.inr ⟨_, _, rfl, o2⟩⟩
      unfold sprocketref25_Sweep.l2
      rw [w64n (by omega), groups_any hlog 1]
      simp only [Option.bind_some]
      rw [if_neg (by omega), e1, block_any hl0 hl1]
      simp only [Option.bind_some]
      rw [make_any (by unfold blk; omega) (by unfold blk; omega)]
      simp only [Option.bind_some, e2]
      exact lift (fun k => (sprocketref25_Sweep.mono_l k).1 _ _ _ _ _ _ _ _ _ _ _ _ _ _) 12 (l0_over th ke se _ _ _ _ _ _ _)
  · refine ⟨12 + 1 + 1, (wrap64 (x5 + 1), ((j : Int), true, 6, blk o, 0, 0, 0)), ?_, Or.inr ⟨_, ⟨6, blk o, 0, 0, 0⟩, rfl, o1⟩⟩
    unfold sprocketref25_Sweep.l2
    rw [w64n (by omega), groups_any hlog 1]
    simp only [Option.bind_some]
    rw [if_neg (by omega), e1, block_any hl0 hl1]
    simp only [Option.bind_some]
    rw [make_any (by unfold blk; omega) (by unfold blk; omega)]
    simp only [Option.bind_some, store_over]
    exact lift (fun k => (sprocketref25_Sweep.mono_l k).1 _ _ _ _ _ _ _ _ _ _ _ _ _ _) 12 (l0_over th ke se _ _ _ _ _ _ _)
theorem l3_on {j0 : Nat} {log : Nat} (hlog : log ≤ 9) {o l : Int} (hl0 : 0 ≤ l) (hl1 : l < 18446744073709551616) (x5 : Int) {g : Nat} (hg : g < groups log)
    (H2 : ∀ (j : Nat) (s : SS), j0 ≤ j → Bs s o l log (8 * (g + 1)) → On C gs j ⟨r, s⟩ → ∃ K t, sprocketref25_Sweep.l2 K x5 (blk o) l log ((g + 1 : Nat) : Int) gs j false 0 0 0 0 0 C.desk th C.threads ke se = some t ∧ SFin C gs r t) :
    ∀ (m q j : Nat) (s : SS), q + m = 8 → j0 ≤ j → Bs s o l log (8 * g + q) → On C gs j ⟨r, s⟩ → ∃ K t, sprocketref25_Sweep.l3 K x5 (blk o) l log g q gs j false 0 0 0 0 0 C.desk th C.threads ke se = some t ∧ SFin C gs r t
  | 0, q, j, s, hq, hj, hB, hon => by
    have hgl := groups_le hlog
    obtain rfl : q = 8 := by omega
    obtain ⟨K, t, e, f⟩ := H2 j s hj hB hon
    refine ⟨K + 1, t, ?_, f⟩
    unfold sprocketref25_Sweep.l3
    have h0 : wrap64 ((g : Int) + 1) = ((g + 1 : Nat) : Int) := by rw [w64 (by omega) (by omega)]; omega
    rw [if_neg (by omega), h0]
    exact e
  | m + 1, q, j, s, hq, hj, hB, hon => by
    have hgl := groups_le hlog
    have h0 : wrap64 ((q : Int) + 1) = ((q + 1 : Nat) : Int) := by rw [w64 (by omega) (by omega)]; omega
    have hp : s.part = 8 := by rw [hB.hp, if_pos (by omega)]
    have ha : sact C.desk s = some ⟨1, blk o, 7 + (groups log : Int) + 8 * (g : Int) + (q : Int), 0, 0⟩ := by
      unfold sact
      simp [hp, hB.ho, hB.hg, hB.hn]
      omega
    rcases sload hr hsw hl hon ha with ⟨w, hw1, e1, o1⟩ | ⟨e1, o1⟩
    · obtain ⟨w0, w1⟩ := hw w hw1
      cases hh : hld w with
      | true =>
        obtain ⟨s1, hs1⟩ : ∃ s1, s1 = stake C.threads s w := ⟨_, rfl⟩
        have e9 : s1 = { s with box := blk w, part := 9 } := by rw [hs1]; unfold stake; simp [hp, hh]
        rw [← hs1] at o1
        have ha1 : sact C.desk s1 = some ⟨6, blk w, 0, 0, 0⟩ := by rw [e9]; unfold sact; simp
        rcases sfree hr hsw hl o1 ha1 with ⟨g2, hg2, e2, o2⟩ | ⟨e2, o2⟩
        · have hs2 : stake C.threads s1 g2 = snext s1 := by rw [e9]; unfold stake; simp
          rw [hs2] at o2
          have hB2 : Bs (snext s1) o l log (8 * g + (q + 1)) := hB.next (s' := s1) (by rw [e9]) (by rw [e9]) (by rw [e9]) (by rw [e9])
          obtain ⟨K, t, e, f⟩ := l3_on hlog hl0 hl1 x5 hg H2 m (q + 1) (j + 1 + 1) _ (by omega) (by omega) hB2 o2
          refine ⟨12 + K + 1, t, ?_, f⟩
          unfold sprocketref25_Sweep.l3
          rw [if_pos (by omega), w64n (by omega), slot_any hlog hg (by omega) K]
          simp only [Option.bind_some, e1]
          rw [holds_any w0]
          simp only [Option.bind_some, hh, if_true]
          rw [block_any w0 w1]
          simp only [Option.bind_some, e2]
          rw [h0]
          exact lift (fun k => (sprocketref25_Sweep.mono_l k).2.2.2.2 _ _ _ _ _ _ _ _ _ _ _ _ _ _ _ _ _ _ _) 12 e
        · obtain ⟨K, n', e⟩ := l3_over (C := C) (gs := gs) th ke se ((j + 1 : Nat) : Int) 6 (blk w) 0 0 0 hlog hg x5 (blk o) l (l2_over th ke se _ _ _ _ _ _ hlog x5 (blk o) l hl0 hl1 (groups log) (g + 1) (by omega)) m (q + 1) (by omega)
          refine ⟨12 + K + 1, (n', (((j + 1 : Nat) : Int), true, 6, blk w, 0, 0, 0)), ?_, Or.inr ⟨_, ⟨6, blk w, 0, 0, 0⟩, rfl, o2⟩⟩
          unfold sprocketref25_Sweep.l3
          rw [if_pos (by omega), w64n (by omega), slot_any hlog hg (by omega) K]
          simp only [Option.bind_some, e1]
          rw [holds_any w0]
          simp only [Option.bind_some, hh, if_true]
          rw [block_any w0 w1]
          simp only [Option.bind_some, e2]
          rw [h0]
          exact lift (fun k => (sprocketref25_Sweep.mono_l k).2.2.2.2 _ _ _ _ _ _ _ _ _ _ _ _ _ _ _ _ _ _ _) 12 e
      | false =>
        have hs1 : stake C.threads s w = snext s := by unfold stake; simp [hp, hh]
        rw [hs1] at o1
        have hB2 : Bs (snext s) o l log (8 * g + (q + 1)) := hB.next (s' := s) rfl rfl rfl rfl
        obtain ⟨K, t, e, f⟩ := l3_on hlog hl0 hl1 x5 hg H2 m (q + 1) (j + 1) _ (by omega) (by omega) hB2 o1
        refine ⟨12 + K + 1, t, ?_, f⟩
        unfold sprocketref25_Sweep.l3
        rw [if_pos (by omega), w64n (by omega), slot_any hlog hg (by omega) K]
        simp only [Option.bind_some, e1]
        rw [holds_any w0]
        simp only [Option.bind_some, hh, Bool.false_eq_true, if_false]
        rw [h0]
        exact lift (fun k => (sprocketref25_Sweep.mono_l k).2.2.2.2 _ _ _ _ _ _ _ _ _ _ _ _ _ _ _ _ _ _ _) 12 e
    · obtain ⟨K, n', e⟩ := l3_over (C := C) (gs := gs) th ke se (j : Int) 1 (blk o) (7 + (groups log : Int) + 8 * (g : Int) + (q : Int)) 0 0 hlog hg x5 (blk o) l (l2_over th ke se _ _ _ _ _ _ hlog x5 (blk o) l hl0 hl1 (groups log) (g + 1) (by omega)) m (q + 1) (by omega)
      refine ⟨12 + K + 1, (n', ((j : Int), true, 1, blk o, 7 + (groups log : Int) + 8 * (g : Int) + (q : Int), 0, 0)), ?_, Or.inr ⟨_, ⟨1, blk o, 7 + (groups log : Int) + 8 * (g : Int) + (q : Int), 0, 0⟩, rfl, o1⟩⟩
      unfold sprocketref25_Sweep.l3
      rw [if_pos (by omega), w64n (by omega), slot_any hlog hg (by omega) K]
      simp only [Option.bind_some, e1]
      rw [holds_any (by omega)]
      have : hld 0 = false := by decide
      simp only [Option.bind_some, this, Bool.false_eq_true, if_false]
      rw [h0]
      exact lift (fun k => (sprocketref25_Sweep.mono_l k).2.2.2.2 _ _ _ _ _ _ _ _ _ _ _ _ _ _ _ _ _ _ _) 12 e
theorem l2_on {j0 : Nat} (H : P0 C gs r th ke se j0) {log : Nat} (hlog : log ≤ 9) {o l : Int} (hl0 : 0 ≤ l) (hl1 : l < 18446744073709551616) (x5 : Int) : ∀ (m g j : Nat) (s : SS), g + m = groups log → j0 ≤ j → Bs s o l log (8 * g) → On C gs j ⟨r, s⟩ →
    ∃ K t, sprocketref25_Sweep.l2 K x5 (blk o) l log g gs j false 0 0 0 0 0 C.desk th C.threads ke se = some t ∧ SFin C gs r t
  | 0, g, j, s, hg, hj, hB, hon => l2_end_on hr hsw hl hw th ke se H hlog hl0 hl1 x5 (by omega) hj hB hon
  | m + 1, g, j, s, hg, hj, hB, hon => by
    obtain ⟨K, t, e, f⟩ := l3_on hr hsw hl hw th ke se (j0 := j0) hlog hl0 hl1 x5 (g := g) (by omega) (fun j' s' hj' hB' hon' => l2_on H hlog hl0 hl1 x5 m (g + 1) j' s' (by omega) hj' hB' hon') 8 0 j s (by omega) hj hB hon
    refine ⟨12 + K + 1, t, ?_, f⟩
    unfold sprocketref25_Sweep.l2
    rw [w64n (by omega), groups_any hlog K]
    simp only [Option.bind_some]
    rw [if_pos (by omega)]
    exact lift (fun k => (sprocketref25_Sweep.mono_l k).2.2.2.2 _ _ _ _ _ _ _ _ _ _ _ _ _ _ _ _ _ _ _) 12 e
end
end Go.Proofs.YtkoebhflbhpfnaaDoor.Fl
namespace Go.Proofs.YtkoebhflbhpfnaaDoor.Fl
open Go.RowKit Go.Proofs.YtkoebhflbhpfnaaDoorW.PrintWords Go.Proofs.YtkoebhflbhpfnaaDoorW.PrintLast Go.Proofs.YtkoebhflbhpfnaaDoorW.PrintMore Go.Proofs.YtkoebhflbhpfnaaDoor.PFlushActs
set_option linter.unusedVariables false
set_option linter.unusedSectionVars false
set_option linter.unusedSimpArgs false
theorem stake4 {T : Nat} {s : SS} {g : Int} (h : s.part = 4) : stake T s g = { s with thread := s.thread + 1, part := if g = blk s.oldest then 5 else if s.thread + 1 = T then 6 else 4 } := by
  unfold stake
  rw [if_neg (by omega), if_neg (by omega), if_neg (by omega), if_pos h]
theorem stake7 {T : Nat} {s : SS} {g : Int} (h : s.part = 7) : stake T s g = { s with log := (min g 10).toNat, slot := 0, part := if 9 < g then 5 else 8 } := by
  unfold stake
  rw [if_neg (by omega), if_neg (by omega), if_neg (by omega), if_neg (by omega), if_neg (by omega), if_neg (by omega), if_pos h]
section
variable {C : Cf} {gs : List Int} {r : RS} (hr : ract C.desk C.threads C.kept r = none) (hsw : C.swept = false) (hl : gs.length < 1000000000) (hw : ∀ g ∈ gs, 0 ≤ g ∧ g < 18446744073709551616) (h64 : C.threads ≤ 64) (th ke se : Int)
include hr hsw hl hw h64
/-- One store, and the end. -/
theorem gives_up {j : Nat} {s : SS} {o : Int} (hp : s.part = 5) (ho : s.oldest = o) (hon : On C gs j ⟨r, s⟩) : ∃ t : Tup, sprocketref09_Tape_Store.f gs j false 0 0 0 0 0 C.desk 1 o = some t ∧ ∀ x5 : Int, SFin C gs r (x5, t) := by
  have ha : sact C.desk s = some ⟨2, C.desk, 1, 0, o⟩ := by unfold sact; simp [hp, ho]
  rcases sstore hr hsw hl hon ha with ⟨g, hg, e, o1⟩ | ⟨e, o1⟩
  · refine ⟨_, e, fun x5 => Or.inl ⟨j + 1, _, rfl, o1, ?_⟩⟩
    have : (stake C.threads s g).part = 12 := by unfold stake; simp [hp]
    unfold sact
    simp [this]
  · exact ⟨_, e, fun x5 => Or.inr ⟨_, ⟨2, C.desk, 1, 0, o⟩, rfl, o1⟩⟩
theorem l1_end_on {j0 : Nat} (H : P0 C gs r th ke se j0) {o : Int} (ho0 : 0 ≤ o) (ho1 : o < 18446744073709551616) (x5 : Int) {j : Nat} {s : SS} (hj : j0 ≤ j) (hp : s.part = 6) (hso : s.oldest = o) (hon : On C gs j ⟨r, s⟩) :
    ∃ K t, sprocketref25_Sweep.l1 K x5 o (blk o) C.threads gs j false 0 0 0 0 0 C.desk th C.threads ke se = some t ∧ SFin C gs r t := by
  have ha : sact C.desk s = some ⟨1, blk o, 1, 0, 0⟩ := by unfold sact; simp [hp, hso]
  rcases sload hr hsw hl hon ha with ⟨w, hw1, e1, o1⟩ | ⟨e1, o1⟩
  · obtain ⟨w0, w1⟩ := hw w hw1
    obtain ⟨s1, hs1⟩ : ∃ s1, s1 = stake C.threads s w := ⟨_, rfl⟩
    have e7 : s1 = { s with link := w, part := 7 } := by rw [hs1]; unfold stake; simp [hp]
    rw [← hs1] at o1
    have ha1 : sact C.desk s1 = some ⟨1, blk o, 0, 0, 0⟩ := by rw [e7]; unfold sact; simp [hso]
    rcases sload hr hsw hl o1 ha1 with ⟨g, hg1, e2, o2⟩ | ⟨e2, o2⟩
    · obtain ⟨g0, g1⟩ := hw g hg1
      by_cases h9 : g > 9
      · have e5 : (stake C.threads s1 g).part = 5 ∧ (stake C.threads s1 g).oldest = o := by
          rw [e7, stake7 rfl]
          exact ⟨by show (if 9 < g then 5 else 8) = 5; rw [if_pos (by omega)], hso⟩
        obtain ⟨t, e3, f⟩ := gives_up hr hsw hl hw h64 e5.1 e5.2 o2
        clear e5
        refine ⟨1, (x5, t), ?_, f x5⟩
        unfold sprocketref25_Sweep.l1
        rw [if_neg (by omega)]
        simp only [e1, e2, Option.bind_some]
        rw [if_pos h9]
        simp only [e3, Option.bind_some]
      · obtain ⟨log, rfl⟩ : ∃ log : Nat, g = (log : Int) := ⟨g.toNat, by omega⟩
        have hlog : log ≤ 9 := by omega
        have hB : Bs (stake C.threads s1 log) o w log (8 * 0) := by
          have h9' : ¬ (9 : Int) < (log : Int) := by omega
          have hm : (min (log : Int) 10).toNat = log := by omega
          have hgp : 0 < groups log := by unfold groups; rw [if_pos hlog]; exact Nat.pow_pos (by omega)
          rw [e7, stake7 rfl]
          refine ⟨hso, rfl, hm, rfl, ?_⟩
          show (if (9 : Int) < (log : Int) then 5 else 8) = _
          rw [if_neg h9', if_pos (by omega)]
        obtain ⟨K, t, e3, f⟩ := l2_on hr hsw hl hw th ke se H hlog w0 w1 x5 (groups log) 0 (j + 1 + 1) _ (by omega) (by omega) hB o2
        refine ⟨K + 1, t, ?_, f⟩
        unfold sprocketref25_Sweep.l1
        rw [if_neg (by omega)]
        simp only [e1, e2, Option.bind_some]
        rw [if_neg h9]
        exact e3
    · obtain ⟨K, n', e⟩ := l2_over (C := C) (gs := gs) th ke se ((j + 1 : Nat) : Int) 1 (blk o) 0 0 0 (log := 0) (by omega) x5 (blk o) w w0 w1 (groups 0) 0 (by omega)
      refine ⟨K + 1, (n', (((j + 1 : Nat) : Int), true, 1, blk o, 0, 0, 0)), ?_, Or.inr ⟨_, ⟨1, blk o, 0, 0, 0⟩, rfl, o2⟩⟩
      unfold sprocketref25_Sweep.l1
      rw [if_neg (by omega)]
      simp only [e1, e2, Option.bind_some]
      rw [if_neg (by omega)]
      exact e
  · obtain ⟨K, n', e⟩ := l1_end_over (C := C) (gs := gs) th ke se (j : Int) 1 (blk o) 1 0 0 h64 x5 o (blk o)
    match K, e with
    | 0, e => unfold sprocketref25_Sweep.l1 at e; cases e
    | K + 1, e =>
      refine ⟨K + 1, (n', ((j : Int), true, 1, blk o, 1, 0, 0)), ?_, Or.inr ⟨_, ⟨1, blk o, 1, 0, 0⟩, rfl, o1⟩⟩
      unfold sprocketref25_Sweep.l1 at e ⊢
      rw [if_neg (by omega)] at e ⊢
      simp only [e1, load_over, Option.bind_some] at e ⊢
      exact e
theorem l1_on {j0 : Nat} (H : P0 C gs r th ke se j0) {o : Int} (ho0 : 0 ≤ o) (ho1 : o < 18446744073709551616) (x5 : Int) : ∀ (m i j : Nat) (s : SS), i + m = C.threads → j0 ≤ j → s.oldest = o → (if i < C.threads then s.part = 4 ∧ s.thread = i else s.part = 6) → On C gs j ⟨r, s⟩ →
    ∃ K t, sprocketref25_Sweep.l1 K x5 o (blk o) i gs j false 0 0 0 0 0 C.desk th C.threads ke se = some t ∧ SFin C gs r t
  | 0, i, j, s, hi, hj, hso, hp, hon => by
    obtain rfl : i = C.threads := by omega
    rw [if_neg (by omega)] at hp
    exact l1_end_on hr hsw hl hw h64 th ke se H ho0 ho1 x5 hj hp hso hon
  | m + 1, i, j, s, hi, hj, hso, hp, hon => by
    rw [if_pos (by omega)] at hp
    have hi64 : i < 64 := by omega
    have hltz : (i : Int) < (C.threads : Int) := by omega
    have h0 : wrap64 ((i : Int) + 1) = ((i + 1 : Nat) : Int) := by rw [w64 (by omega) (by omega)]; omega
    have ha : sact C.desk s = some ⟨1, C.desk, 2 + 2 * (i : Int), 0, 0⟩ := by unfold sact; simp [hp.1, hp.2]
    rcases sload hr hsw hl hon ha with ⟨w, hw1, e1, o1⟩ | ⟨e1, o1⟩
    · by_cases h7 : w = blk o
      · have e5 : (stake C.threads s w).part = 5 ∧ (stake C.threads s w).oldest = o := by
          rw [stake4 hp.1]
          exact ⟨by show (if w = blk s.oldest then 5 else _) = 5; rw [if_pos (by rw [hso]; exact h7)], hso⟩
        obtain ⟨t, e3, f⟩ := gives_up hr hsw hl hw h64 e5.1 e5.2 o1
        clear e5
        refine ⟨1, (x5, t), ?_, f x5⟩
        unfold sprocketref25_Sweep.l1
        rw [if_pos hltz, tab_any hi64]
        simp only [e1, Option.bind_some]
        rw [if_pos h7]
        simp only [e3, Option.bind_some]
      · obtain ⟨K, t, e3, f⟩ := l1_on H ho0 ho1 x5 m (i + 1) (j + 1) (stake C.threads s w) (by omega) (by omega) (by rw [stake4 hp.1]; exact hso) (by
          rw [stake4 hp.1]
          by_cases hlt : i + 1 < C.threads
          · rw [if_pos hlt]
            exact ⟨by show (if w = blk s.oldest then 5 else if s.thread + 1 = C.threads then 6 else 4) = 4; rw [if_neg (by rw [hso]; exact h7), if_neg (by rw [hp.2]; omega)], by show s.thread + 1 = i + 1; rw [hp.2]⟩
          · rw [if_neg hlt]
            show (if w = blk s.oldest then 5 else if s.thread + 1 = C.threads then 6 else 4) = 6
            rw [if_neg (by rw [hso]; exact h7), if_pos (by rw [hp.2]; omega)]) o1
        refine ⟨K + 1, t, ?_, f⟩
        unfold sprocketref25_Sweep.l1
        rw [if_pos hltz, tab_any hi64]
        simp only [e1, Option.bind_some]
        rw [if_neg h7, h0]
        exact e3
    · obtain ⟨K, n', e⟩ := l1_over (C := C) (gs := gs) th ke se (j : Int) 1 C.desk (2 + 2 * (i : Int)) 0 0 h64 x5 o (blk o) (m + 1) i (by omega)
      match K, e with
      | 0, e => unfold sprocketref25_Sweep.l1 at e; cases e
      | K + 1, e =>
        refine ⟨K + 1, (n', ((j : Int), true, 1, C.desk, 2 + 2 * (i : Int), 0, 0)), ?_, Or.inr ⟨_, ⟨1, C.desk, 2 + 2 * (i : Int), 0, 0⟩, rfl, o1⟩⟩
        unfold sprocketref25_Sweep.l1 at e ⊢
        rw [if_pos hltz, tab_any hi64] at e ⊢
        simp only [e1, load_over, Option.bind_some] at e ⊢
        exact e
omit hr hsw hl hw h64 in
theorem stake1 {T : Nat} {s : SS} {g : Int} (h : s.part = 1) : stake T s g = { s with oldest := g, part := if mrk g ≠ 0 ∨ blk g = 0 then 12 else 2 } := by
  unfold stake
  rw [if_pos h]
omit hr hsw hl hw h64 in
theorem stake2 {T : Nat} {s : SS} {g : Int} (h : s.part = 2) : stake T s g = { s with part := if g = blk s.oldest then 12 else 3 } := by
  unfold stake
  rw [if_neg (by omega), if_pos h]
omit hr hsw hl hw h64 in
theorem stake3 {T : Nat} {s : SS} {g : Int} (h : s.part = 3) : stake T s g = { s with thread := 0, part := if g ≠ s.oldest then 12 else 4 } := by
  unfold stake
  rw [if_neg (by omega), if_neg (by omega), if_pos h]
omit hr hsw hl hw h64 in
theorem again_eq {o : Int} (h0 : 0 ≤ o) (h1 : o < 18446744073709551616) (hm : mrk o = 0) : IntKind.u64.wrap (o + 1) = mk (blk o) 1 := by
  unfold mrk at hm
  unfold mk blk
  rw [u64w (by omega) (by omega), Int.emod_eq_of_lt (by omega) (by omega)]
  omega
omit hr hsw hl hw h64 in
theorem sact12 {d : Int} {s : SS} (h : s.part = 12) : sact d s = none := by unfold sact; simp [h]
theorem l0_on (h1 : 1 ≤ C.threads) : ∀ (N j : Nat) (s : SS) (x5 : Int), gs.length < j + N → s.part = 1 → On C gs j ⟨r, s⟩ → ∃ K t, sprocketref25_Sweep.l0 K x5 gs j false 0 0 0 0 0 C.desk th C.threads ke se = some t ∧ SFin C gs r t
  | 0, j, s, x5, hN, hp, hon => absurd hon.le (by omega)
  | N + 1, j, s, x5, hN, hp, hon => by
    have H : P0 C gs r th ke se j := fun j' s' y hj' hp' hon' => l0_on h1 N j' s' y (by omega) hp' hon'
    have hfalse : ¬ (false = true) := by decide
    have ha : sact C.desk s = some ⟨1, C.desk, 1, 0, 0⟩ := by unfold sact; rw [if_pos hp]
    rcases sload hr hsw hl hon ha with ⟨o, ho, e1, o1⟩ | ⟨e1, o1⟩
    · obtain ⟨w0, w1⟩ := hw o ho
      obtain ⟨s1, hs1⟩ : ∃ s1, s1 = stake C.threads s o := ⟨_, rfl⟩
      have hs1' := hs1.trans (stake1 hp)
      rw [← hs1] at o1
      by_cases hend : mrk o ≠ 0 ∨ blk o = 0
      · have hp1 : s1.part = 12 := by rw [hs1']; exact if_pos hend
        refine ⟨2, (x5, (((j + 1 : Nat) : Int), false, 0, 0, 0, 0, 0)), ?_, Or.inl ⟨j + 1, s1, rfl, o1, sact12 hp1⟩⟩
        unfold sprocketref25_Sweep.l0
        rw [if_neg hfalse]
        simp only [e1, Option.bind_some, block_any w0 w1, mark_any w0 w1]
        by_cases hm : mrk o = 0
        · have hb : blk o = 0 := hend.resolve_left (fun h => h hm)
          rw [if_pos hm, hb]
          unfold sprocketref25_Sweep.j1
          rfl
        · rw [if_neg hm]
          unfold sprocketref25_Sweep.j1
          rfl
      · have hm : mrk o = 0 := Classical.not_not.1 fun h => hend (Or.inl h)
        have hb : blk o ≠ 0 := fun h => hend (Or.inr h)
        have hbb : (blk o == 0) = false := by rw [beq_eq_false_iff_ne]; exact hb
        have ho0 : ¬ ((0 : Int) = o) := fun h => hb (by rw [← h]; rfl)
        have hb0 : ¬ ((0 : Int) = blk o) := fun h => hb h.symm
        have hp1 : s1.part = 2 := by rw [hs1']; exact if_neg hend
        have hso1 : s1.oldest = o := by rw [hs1']
        have ha1 : sact C.desk s1 = some ⟨1, C.desk, 0, 0, 0⟩ := by unfold sact; rw [if_neg (by omega), if_pos hp1]
        rcases sload hr hsw hl o1 ha1 with ⟨w, hw1, e2, o2⟩ | ⟨e2, o2⟩
        · obtain ⟨s2, hs2⟩ : ∃ s2, s2 = stake C.threads s1 w := ⟨_, rfl⟩
          have hs2' := hs2.trans (stake2 hp1)
          rw [← hs2] at o2
          by_cases hwb : w = blk o
          · have hp2 : s2.part = 12 := by rw [hs2']; exact if_pos (by rw [hso1]; exact hwb)
            refine ⟨2, (x5, (((j + 1 + 1 : Nat) : Int), false, 0, 0, 0, 0, 0)), ?_, Or.inl ⟨j + 1 + 1, s2, rfl, o2, sact12 hp2⟩⟩
            unfold sprocketref25_Sweep.l0
            rw [if_neg hfalse]
            simp only [e1, Option.bind_some, block_any w0 w1, mark_any w0 w1]
            rw [if_pos hm, hbb]
            unfold sprocketref25_Sweep.j1
            rw [if_neg hfalse]
            simp only [e2, Option.bind_some]
            rw [if_pos hwb]
          · have hp2 : s2.part = 3 := by rw [hs2']; exact if_neg (by rw [hso1]; exact hwb)
            have hso2 : s2.oldest = o := by rw [hs2']; exact hso1
            have ha2 : sact C.desk s2 = some ⟨3, C.desk, 1, o, IntKind.u64.wrap (o + 1)⟩ := by
              rw [again_eq w0 w1 hm]
              unfold sact
              rw [if_neg (by omega), if_neg (by omega), if_pos hp2, hso2]
            rcases scas hr hsw hl o2 ha2 with ⟨c, hc, e3, o3⟩ | ⟨e3, o3⟩
            · obtain ⟨s3, hs3⟩ : ∃ s3, s3 = stake C.threads s2 c := ⟨_, rfl⟩
              have hs3' := hs3.trans (stake3 hp2)
              rw [← hs3] at o3
              by_cases hco : c = o
              · have hp3 : s3.part = 4 := by rw [hs3']; exact if_neg (by rw [hso2]; exact fun h => h hco)
                have hth3 : s3.thread = 0 := by rw [hs3']
                have hso3 : s3.oldest = o := by rw [hs3']; exact hso2
                obtain ⟨K, t, e, f⟩ := l1_on hr hsw hl hw h64 th ke se H w0 w1 x5 C.threads 0 (j + 1 + 1 + 1) s3 (by omega) (by omega) hso3 (by rw [if_pos (by omega)]; exact ⟨hp3, hth3⟩) o3
                refine ⟨K + 2, t, ?_, f⟩
                unfold sprocketref25_Sweep.l0
                rw [if_neg hfalse]
                simp only [e1, Option.bind_some, block_any w0 w1, mark_any w0 w1]
                rw [if_pos hm, hbb]
                unfold sprocketref25_Sweep.j1
                rw [if_neg hfalse]
                simp only [e2, Option.bind_some]
                rw [if_neg hwb]
                simp only [e3, Option.bind_some]
                rw [if_pos hco]
                exact e
              · have hp3 : s3.part = 12 := by rw [hs3']; exact if_pos (by rw [hso2]; exact hco)
                refine ⟨2, (x5, (((j + 1 + 1 + 1 : Nat) : Int), false, 0, 0, 0, 0, 0)), ?_, Or.inl ⟨j + 1 + 1 + 1, s3, rfl, o3, sact12 hp3⟩⟩
                unfold sprocketref25_Sweep.l0
                rw [if_neg hfalse]
                simp only [e1, Option.bind_some, block_any w0 w1, mark_any w0 w1]
                rw [if_pos hm, hbb]
                unfold sprocketref25_Sweep.j1
                rw [if_neg hfalse]
                simp only [e2, Option.bind_some]
                rw [if_neg hwb]
                simp only [e3, Option.bind_some]
                rw [if_neg hco]
            · refine ⟨2, (x5, (((j + 1 + 1 : Nat) : Int), true, 3, C.desk, 1, o, IntKind.u64.wrap (o + 1))), ?_, Or.inr ⟨_, ⟨3, C.desk, 1, o, IntKind.u64.wrap (o + 1)⟩, rfl, o3⟩⟩
              unfold sprocketref25_Sweep.l0
              rw [if_neg hfalse]
              simp only [e1, Option.bind_some, block_any w0 w1, mark_any w0 w1]
              rw [if_pos hm, hbb]
              unfold sprocketref25_Sweep.j1
              rw [if_neg hfalse]
              simp only [e2, Option.bind_some]
              rw [if_neg hwb]
              simp only [e3, Option.bind_some]
              rw [if_neg ho0]
        · refine ⟨2, (x5, (((j + 1 : Nat) : Int), true, 1, C.desk, 0, 0, 0)), ?_, Or.inr ⟨_, ⟨1, C.desk, 0, 0, 0⟩, rfl, o2⟩⟩
          unfold sprocketref25_Sweep.l0
          rw [if_neg hfalse]
          simp only [e1, Option.bind_some, block_any w0 w1, mark_any w0 w1]
          rw [if_pos hm, hbb]
          unfold sprocketref25_Sweep.j1
          rw [if_neg hfalse]
          simp only [e2, Option.bind_some]
          rw [if_neg hb0]
          simp only [cas_over, Option.bind_some]
          rw [if_neg ho0]
    · refine ⟨2, (x5, ((j : Int), true, 1, C.desk, 1, 0, 0)), ?_, Or.inr ⟨_, ⟨1, C.desk, 1, 0, 0⟩, rfl, o1⟩⟩
      have hb0 : blk 0 = 0 := rfl
      have hm0 : mrk 0 = 0 := rfl
      unfold sprocketref25_Sweep.l0
      rw [if_neg hfalse]
      simp only [e1, Option.bind_some, block_any (w := 0) (by omega) (by omega), mark_any (w := 0) (by omega) (by omega)]
      rw [if_pos hm0, hb0]
      unfold sprocketref25_Sweep.j1
      rfl
end
/-- A whole flush. -/
def FFin (C : Cf) (gs : List Int) (t : List Int × Tup) : Prop := (∃ p, t = ((run C gs).r.rest, p, false, 0, 0, 0, 0, 0) ∧ fact C (run C gs) = none) ∨ Ov C gs t.2
theorem flush_on {C : Cf} {gs : List Int} (hk : C.kept.length < 1000000000) (h1 : 1 ≤ C.threads) (h64 : C.threads ≤ 64) (hl : gs.length < 1000000000) (hw : ∀ g ∈ gs, 0 ≤ g ∧ g < 18446744073709551616) (th ke se : Int) :
    ∃ K t, sprocketref35_Flush.f K gs 0 false 0 0 0 0 0 C.desk th C.threads ke se C.kept C.swept = some t ∧ FFin C gs t := by
  obtain ⟨K1, t1, told, e1, ht, f1⟩ := look_on (C := C) (gs := gs) hk h1 h64 hl th ke se
  rcases f1 with ⟨j, rfl, o1⟩ | f1
  · have hr : ract C.desk C.threads C.kept (sig C.kept told C.kept.length) = none := ract_end ht
    have hrest : (sig C.kept told C.kept.length).rest = rest' told C.kept := by rw [sig_end]
    cases hsw : C.swept with
    | true =>
      have hf : fact C ⟨sig C.kept told C.kept.length, s0⟩ = none := by unfold fact; simp only [hr, hsw]; rfl
      have hrun := run_stuck (C := C) (gs := gs) (j := j) (by rw [o1.eq]; exact hf)
      rw [o1.eq] at hrun
      refine ⟨K1, (rest' told C.kept, ((j : Int), false, 0, 0, 0, 0, 0)), ?_, Or.inl ⟨j, by rw [hrun, ← hrest], by rw [hrun]; exact hf⟩⟩
      unfold sprocketref35_Flush.f
      simp only [e1, Option.bind_some]
      rfl
    | false =>
      obtain ⟨K2, t2, e2, f2⟩ := l0_on hr hsw hl hw h64 th ke se h1 (gs.length + 1) j s0 0 (by omega) rfl o1
      refine ⟨K2 + K1, (rest' told C.kept, t2.2), ?_, ?_⟩
      · unfold sprocketref35_Flush.f sprocketref24_Look.f sprocketref25_Sweep.f
        unfold sprocketref24_Look.f at e1
        have e1' := lift (fun k => (sprocketref24_Look.mono_l k).1 _ _ _ _ _ _ _ _ _ _ _ _ _ _ _ _ _) K2 e1
        have e2' := lift (fun k => (sprocketref25_Sweep.mono_l k).1 _ _ _ _ _ _ _ _ _ _ _ _ _ _) K1 e2
        rw [Nat.add_comm K1 K2] at e2'
        simp only [e1', e2', Option.bind_some]
        rfl
      · rcases f2 with ⟨j2, s2, hs2, o2, hn⟩ | f2
        · have hf : fact C ⟨sig C.kept told C.kept.length, s2⟩ = none := by rw [fact_s hr hsw]; exact hn
          have hrun := run_stuck (C := C) (gs := gs) (j := j2) (by rw [o2.eq]; exact hf)
          rw [o2.eq] at hrun
          exact Or.inl ⟨j2, by rw [hrun, hs2, ← hrest], by rw [hrun]; exact hf⟩
        · exact Or.inr f2
  · obtain ⟨p, a, hp, ha⟩ := f1
    obtain ⟨r, u⟩ := t1
    dsimp only at hp
    subst hp
    refine ⟨K1, (r, (p, true, a.k, a.b, a.c, a.o, a.n)), ?_, Or.inr ⟨p, a, rfl, ha⟩⟩
    unfold sprocketref35_Flush.f
    simp only [e1, Option.bind_some]
    rfl
end Go.Proofs.YtkoebhflbhpfnaaDoor.Fl
