/- lin: the plain law: looking for an order by steps finds what looking through all of them finds. lin: a map's text tells the map. Sets of small numbers as words. strings.Builder: WriteString at a builder that the call itself has made (this program's copyCheck panics where the loader lays nothing: so the shelf's laying does not fit, and its walk is done here on this text). digit.Print, over a world in which the table of powers reads as laid. lin: text. lin: small functions. lin: the finder; over. -/
import Derived.Test.YtdhgacionopghaaGreatDoorOrdStepL
import Derived.Test.YtdhgacionopghaaGreatDoorOrdTours
import Derived.Test.YtdhgacionopghaaGreatDoorDigitPure
import Derived.WalkKit
import Derived.Test.YtdhgacionopghaaGreatDoorProg
import Derived.Shelf.RegionOpenPlain
import Derived.Lib.Strings
import Derived.Lib.Slices
import Derived.Lib.Walk
import Derived.Lib.Hide
import Derived.Lib.Builder
import Derived.Lib.AppendStr
import Derived.Lib.UnsafeStr
import Derived.Laws.Externs
import Derived.Laws.IdiomCopy
import Derived.Test.YtdhgacionopghaaGreatDoorShelf
import Derived.Lib.ItoaMem
import Derived.Lib.LaidTab
import Derived.BigCall
import Derived.BigGuard
import Derived.Deep.RegionHeld3
import Derived.Test.YtdhgacionopghaaGreatDoorOpenCalls
import Derived.Test.YtdhgacionopghaaGreatDoorBelowQuiet
import Derived.BigQuiet
namespace Go.Proofs.YtdhgacionopghaaGreatDoor.Ln
open Go.RowKit Go.Shelf Dc DcM DcW DcI DcR DcL Sp Od
set_option linter.unusedVariables false
set_option linter.unusedSimpArgs false
/-- The places of calls that a map answers, rising. -/
def plcN (l : List CV) : List Nat := (List.range l.length).filter fun i => mappedB l (i : Int)
def plc (l : List CV) : List Int := (plcN l).map fun (i : Nat) => (i : Int)
theorem mem_plc {l : List CV} {a : Int} : a ∈ plc l ↔ mappedB l a = true := by
  unfold plc plcN
  constructor
  · intro h
    obtain ⟨n, hn, rfl⟩ := List.mem_map.1 h
    exact (List.mem_filter.1 hn).2
  · intro h
    obtain ⟨n, q, rfl, hn, hq⟩ := mapped_at h
    exact List.mem_map.2 ⟨n, List.mem_filter.2 ⟨by simpa using hn, h⟩, rfl⟩
theorem sorted_plc (l : List CV) : (plc l).Pairwise (· < ·) := by
  unfold plc plcN
  rw [List.pairwise_map]
  refine List.Pairwise.filter _ ?_
  refine List.Pairwise.imp (fun h => ?_) List.pairwise_lt_range
  omega
theorem nodup_plc (l : List CV) : (plc l).Nodup := (sorted_plc l).imp fun h e => by omega
theorem fs_filter {α β : Type} (P : List α) (a : α → Bool) (g : α → Option β) : (P.filter a).findSome? g = P.findSome? fun x => if a x then g x else none := by
  induction P with
  | nil => rfl
  | cons x t ih =>
    rw [List.filter_cons]
    by_cases h : a x = true
    · rw [if_pos h, List.findSome?_cons, List.findSome?_cons, if_pos h, ih]
    · rw [if_neg h, List.findSome?_cons, if_neg h, ih]
theorem fs_congr {α β : Type} {P : List α} {f g : α → Option β} (h : ∀ x ∈ P, f x = g x) : P.findSome? f = P.findSome? g := by
  induction P with
  | nil => rfl
  | cons x t ih =>
    rw [List.findSome?_cons, List.findSome?_cons, h x (by simp), ih fun y hy => h y (by simp [hy])]
theorem fs_some {α β : Type} (P : List α) (g : α → Option β) : (P.findSome? g).isSome = P.any fun x => (g x).isSome := by
  induction P with
  | nil => rfl
  | cons x t ih =>
    rw [List.findSome?_cons, List.any_cons]
    cases hx : g x with
    | none => simp [ih]
    | some y => simp

def okRow (l : List CV) (row : List Int) : Bool := decide ((checkM l row).2 = 0)
theorem okRow_iff {l : List CV} {row : List Int} : okRow l row = true ↔ wholeB l row = true ∧ ∀ i, i < row.length → errI l row i = 0 := by
  unfold okRow
  rw [decide_eq_true_eq]
  constructor
  · intro h
    cases hw : wholeB l row with
    | false => rw [check_bad hw] at h; cases h
    | true =>
      refine ⟨rfl, fun i hi => ?_⟩
      unfold checkM at h
      rw [hw, if_pos rfl] at h
      split at h
      · next j hj =>
        have := List.find?_some hj
        simp at this
        exact absurd h this
      · next hn =>
        rw [List.find?_range_eq_none] at hn
        have := hn i hi
        simpa using this
  · rintro ⟨h1, h2⟩
    rw [check_ok h1 h2]
def okT (l : List CV) (tours : Bool) (row : List Int) : Bool := okRow l row && (!tours || (toursM l row).2)
/-- The reference: all orders, from the least on. -/
def findM (l : List CV) (tours : Bool) : Nat → List Int → Option (List Int)
  | 0, row => if okT l tours row then some row else none
  | f + 1, row => if okT l tours row then some row else ((plc l).filter fun p => !row.contains p).findSome? fun p => findM l tours f (row ++ [p])
theorem findM_some {l : List CV} {tours : Bool} : ∀ (f : Nat) (row r : List Int), findM l tours f row = some r → row <+: r ∧ okT l tours r = true
  | 0, row, r, h => by
    unfold findM at h
    split at h
    · next hk => injection h with h; subst h; exact ⟨List.prefix_refl _, hk⟩
    · cases h
  | f + 1, row, r, h => by
    unfold findM at h
    split at h
    · next hk => injection h with h; subst h; exact ⟨List.prefix_refl _, hk⟩
    · obtain ⟨p, _, hp⟩ := List.exists_of_findSome?_eq_some h
      obtain ⟨h1, h2⟩ := findM_some f _ _ hp
      exact ⟨(List.prefix_append row [p]).trans h1, h2⟩
theorem findM_none {l : List CV} {tours : Bool} (f : Nat) (row : List Int) (h : ∀ r, row <+: r → okRow l r = false) : findM l tours f row = none := by
  cases hf : findM l tours f row with
  | none => rfl
  | some r =>
    obtain ⟨h1, h2⟩ := findM_some f row r hf
    unfold okT at h2
    rw [h r h1] at h2; cases h2
theorem errI_append (l : List CV) (row ys : List Int) {i : Nat} (h : i < row.length) : errI l (row ++ ys) i = errI l row i := by
  unfold errI
  rw [List.getElem?_append_left h, List.take_append_of_le_length (by omega)]
theorem bad_none {l : List CV} {tours : Bool} {row : List Int} {i : Nat} (hi : i < row.length) (h : errI l row i ≠ 0) (f : Nat) : findM l tours f row = none := by
  refine findM_none f row fun r hr => ?_
  obtain ⟨ys, rfl⟩ := hr
  cases hk : okRow l (row ++ ys) with
  | false => rfl
  | true =>
    have := (okRow_iff.1 hk).2 i (by simp; omega)
    rw [errI_append l row ys hi] at this
    exact absurd this h
/-- Is the call at b ahead of the call at a? -/
def aheadB (l : List CV) (b a : Int) : Bool := match l[b.toNat]?, l[a.toNat]? with
  | some p, some q => beforeB p.1 q.1
  | _, _ => false
theorem has_of_whole {l : List CV} {r : List Int} (h : wholeB l r = true) {a : Int} (hm : mappedB l a = true) (hd : doneAt l a.toNat = true) : a ∈ r := by
  obtain ⟨n, q, rfl, hn, hq⟩ := mapped_at hm
  unfold wholeB at h
  rw [Bool.and_eq_true] at h
  have := List.all_eq_true.1 h.2 n (by simpa using hn)
  unfold hasAt at this
  rw [Int.toNat_natCast] at hd
  rw [hm, hd] at this
  simp only [Bool.and_self, Bool.true_and, Bool.not_eq_true', decide_eq_false_iff_not, List.count_eq_zero] at this
  exact Decidable.of_not_not this
theorem late_none {l : List CV} {tours : Bool} {row : List Int} {p q : Int} (hq : mappedB l q = true) (hp : mappedB l p = true) (hqr : q ∉ row) (hqp : q ≠ p) (ha : aheadB l q p = true) (f : Nat) : findM l tours f (row ++ [p]) = none := by
  refine findM_none f _ fun r hr => ?_
  obtain ⟨ys, rfl⟩ := hr
  cases hk : okRow l (row ++ [p] ++ ys) with
  | false => rfl
  | true =>
    exfalso
    obtain ⟨hw, he⟩ := okRow_iff.1 hk
    obtain ⟨nq, cq, rfl, hnq, hcq⟩ := mapped_at hq
    obtain ⟨np, cp, rfl, hnp, hcp⟩ := mapped_at hp
    unfold aheadB at ha
    rw [Int.toNat_natCast, Int.toNat_natCast, hcq, hcp] at ha
    simp only at ha
    have hd : doneAt l ((nq : Int)).toNat = true := by
      unfold doneAt
      rw [Int.toNat_natCast, hcq]
      unfold beforeB at ha
      rw [Bool.and_eq_true] at ha
      exact ha.1
    have hin := has_of_whole hw hq hd
    rw [List.append_assoc, List.mem_append] at hin
    rcases hin with hin | hin
    · exact hqr hin
    · rw [List.mem_append] at hin
      rcases hin with hin | hin
      · simp at hin; omega
      · obtain ⟨j, hj⟩ := List.mem_iff_getElem?.1 hin
        have hjl := (List.getElem?_eq_some_iff.1 hj).1
        have hat : (row ++ [(np : Int)] ++ ys)[(row ++ [(np : Int)]).length + j]? = some (nq : Int) := by
          rw [List.getElem?_append_right (by omega), Nat.add_sub_cancel_left]; exact hj
        have h0 := he ((row ++ [(np : Int)]).length + j) (by simp; omega)
        rw [errI_eq hat hcq, if_pos ?_] at h0
        · cases h0
        · rw [List.any_eq_true]
          refine ⟨(np : Int), ?_, ?_⟩
          · rw [List.mem_take_iff_getElem]
            refine ⟨row.length, by simp; omega, ?_⟩
            simp
          · unfold lateB
            rw [Int.toNat_natCast, hcp]
            exact ha
/-- An order that is right so far, with whatever is ahead of its calls. -/
structure Good (l : List CV) (row : List Int) : Prop where
  nodup : row.Nodup
  sub : ∀ a ∈ row, mappedB l a = true
  fine : ∀ i, i < row.length → errI l row i = 0
  closed : ∀ a ∈ row, ∀ b, mappedB l b = true → aheadB l b a = true → b ∈ row
theorem Good.nil (l : List CV) : Good l [] := ⟨List.nodup_nil, fun a h => (by cases h), fun i h => absurd h (Nat.not_lt_zero _), fun a h => (by cases h)⟩
def readyB (l : List CV) (row : List Int) (p : Int) : Bool := (plc l).all fun q => decide (q = p) || !aheadB l q p || row.contains q
def allowB (l : List CV) (row : List Int) (p : Int) : Bool := match l[p.toNat]? with
  | some q => !q.1.done || allowsB (behindM l row) q.1.op q.1.reply
  | none => false
def overM (l : List CV) (row : List Int) : Bool := (plc l).all fun a => !doneAt l a.toNat || row.contains a
def mayB (l : List CV) (row : List Int) (p : Int) : Bool := !row.contains p && readyB l row p && allowB l row p
/-- The program: step by step. -/
def searchM (l : List CV) (tours : Bool) : Nat → List Int → Option (List Int)
  | 0, row => if overM l row && (!tours || (toursM l row).2) then some row else none
  | f + 1, row => if overM l row && (!tours || (toursM l row).2) then some row else ((plc l).filter (mayB l row)).findSome? fun p => searchM l tours f (row ++ [p])
theorem over_ok {l : List CV} {row : List Int} (g : Good l row) : overM l row = okRow l row := by
  rw [Bool.eq_iff_iff, okRow_iff]
  constructor
  · intro h
    refine ⟨?_, g.fine⟩
    unfold wholeB
    rw [Bool.and_eq_true]
    constructor
    · rw [List.all_eq_true]
      intro a ha
      unfold okAt
      rw [g.sub a ha, Bool.true_and, decide_eq_true_eq]
      exact List.nodup_iff_count.1 g.nodup a
    · rw [List.all_eq_true]
      intro i hi
      unfold hasAt
      cases hm : mappedB l (i : Int) with
      | false => rfl
      | true =>
        have := List.all_eq_true.1 h (i : Int) (mem_plc.2 hm)
        rw [Int.toNat_natCast] at this
        cases hd : doneAt l i with
        | false => rfl
        | true =>
          rw [hd] at this
          simp only [Bool.not_true, Bool.false_or, List.contains_iff_mem] at this
          have h0 : row.count (i : Int) ≠ 0 := by
            intro e; exact List.count_eq_zero.1 e this
          rw [decide_eq_false h0]; rfl
  · rintro ⟨hw, _⟩
    unfold overM
    rw [List.all_eq_true]
    intro a ha
    have hm := mem_plc.1 ha
    cases hd : doneAt l a.toNat with
    | false => rfl
    | true =>
      have := has_of_whole hw hm hd
      simp [this]
theorem Good.snoc {l : List CV} {row : List Int} {p : Int} (g : Good l row) (hm : mappedB l p = true) (h : mayB l row p = true) : Good l (row ++ [p]) := by
  unfold mayB at h
  simp only [Bool.and_eq_true, Bool.not_eq_true'] at h
  obtain ⟨⟨h1, h2⟩, h3⟩ := h
  have hnp : p ∉ row := by
    intro e
    rw [List.contains_iff_mem.2 e] at h1; cases h1
  obtain ⟨n, q, rfl, hn, hq⟩ := mapped_at hm
  refine ⟨?_, ?_, ?_, ?_⟩
  · rw [List.nodup_append]
    refine ⟨g.nodup, by simp, fun a ha b hb => ?_⟩
    simp at hb; subst hb
    intro e; subst e; exact hnp ha
  · intro a ha
    rw [List.mem_append] at ha
    rcases ha with ha | ha
    · exact g.sub a ha
    · simp at ha; subst ha; exact hm
  · intro i hi
    by_cases hir : i < row.length
    · rw [errI_append l row _ hir]; exact g.fine i hir
    · have hil : i = row.length := by simp at hi; omega
      subst hil
      have hat : (row ++ [(n : Int)])[row.length]? = some (n : Int) := by simp
      rw [errI_eq hat hq, List.take_left]
      rw [if_neg ?_, if_neg ?_]
      · unfold allowB at h3
        rw [Int.toNat_natCast, hq] at h3
        simp only at h3
        cases hd : q.1.done with
        | false => simp
        | true =>
          rw [hd] at h3
          simp only [Bool.not_true, Bool.false_or] at h3
          rw [h3]; simp
      · intro hany
        obtain ⟨a, ha, hl⟩ := List.any_eq_true.1 hany
        refine hnp (g.closed a ha _ hm ?_)
        unfold lateB at hl
        unfold aheadB
        rw [Int.toNat_natCast, hq]
        split at hl
        · next r hr => rw [hr]; exact hl
        · cases hl
  · intro a ha b hb hab
    rw [List.mem_append] at ha ⊢
    rcases ha with ha | ha
    · exact Or.inl (g.closed a ha b hb hab)
    · simp at ha; subst ha
      have := List.all_eq_true.1 h2 b (mem_plc.2 hb)
      rw [hab] at this
      simp only [Bool.not_true, Bool.or_false, Bool.or_eq_true, decide_eq_true_eq, List.contains_iff_mem] at this
      rcases this with e | e
      · exact Or.inr (by simp [e])
      · exact Or.inl e
theorem may_none {l : List CV} {tours : Bool} {row : List Int} {p : Int} (hm : mappedB l p = true) (hnp : row.contains p = false) (h : mayB l row p = false) (f : Nat) : findM l tours f (row ++ [p]) = none := by
  unfold mayB at h
  rw [hnp] at h
  simp only [Bool.not_false, Bool.true_and, Bool.and_eq_false_iff] at h
  obtain ⟨n, q, rfl, hn, hq⟩ := mapped_at hm
  rcases h with h | h
  · unfold readyB at h
    rw [List.all_eq_false] at h
    obtain ⟨b, hb, hf⟩ := h
    simp only [Bool.or_eq_true, decide_eq_true_eq, Bool.not_eq_true', List.contains_iff_mem, not_or, Bool.not_eq_false] at hf
    exact late_none (mem_plc.1 hb) hm hf.2 hf.1.1 hf.1.2 f
  · have hat : (row ++ [(n : Int)])[row.length]? = some (n : Int) := by simp
    refine bad_none (i := row.length) (by simp) ?_ f
    rw [errI_eq hat hq, List.take_left]
    split
    · decide
    · unfold allowB at h
      rw [Int.toNat_natCast, hq] at h
      simp only [Bool.or_eq_false_iff, Bool.not_eq_false'] at h
      rw [if_pos (by rw [h.1, h.2]; rfl)]
      decide
theorem search_find {l : List CV} {tours : Bool} : ∀ (f : Nat) (row : List Int), Good l row → searchM l tours f row = findM l tours f row
  | 0, row, g => by
    unfold searchM findM okT
    rw [over_ok g]
  | f + 1, row, g => by
    unfold searchM findM okT
    rw [over_ok g]
    split
    · rfl
    · rw [fs_filter, fs_filter]
      refine fs_congr fun p hp => ?_
      have hm := mem_plc.1 hp
      cases hc : row.contains p with
      | true => unfold mayB; rw [hc]; simp
      | false =>
        cases hy : mayB l row p with
        | true =>
          simp only [if_true, Bool.not_false]
          exact search_find f _ (g.snoc hm hy)
        | false =>
          simp only [Bool.not_false, if_true, Bool.false_eq_true, if_false]
          exact (may_none hm hc hy f).symm
/-- What a search finds hangs on which calls were used, and on the map. -/
theorem search_same {l : List CV} : ∀ (f : Nat) (r1 r2 : List Int), (∀ a, a ∈ r1 ↔ a ∈ r2) → behindM l r1 = behindM l r2 → (searchM l false f r1).isSome = (searchM l false f r2).isSome := by
  have hc : ∀ (r1 r2 : List Int), (∀ a, a ∈ r1 ↔ a ∈ r2) → ∀ a, r1.contains a = r2.contains a := fun r1 r2 h a => by
    rw [Bool.eq_iff_iff, List.contains_iff_mem, List.contains_iff_mem]; exact h a
  have ho : ∀ (r1 r2 : List Int), (∀ a, a ∈ r1 ↔ a ∈ r2) → overM l r1 = overM l r2 := fun r1 r2 h => by
    unfold overM
    congr 1
    funext a
    rw [hc r1 r2 h a]
  intro f
  induction f with
  | zero =>
    intro r1 r2 h _
    unfold searchM
    rw [ho r1 r2 h]
    cases overM l r2 <;> rfl
  | succ f ih =>
    intro r1 r2 h hb
    unfold searchM
    rw [ho r1 r2 h]
    have hmay : mayB l r1 = mayB l r2 := by
      funext p
      unfold mayB readyB allowB
      rw [hc r1 r2 h p, hb]
      congr 2
      congr 1
      funext a
      rw [hc r1 r2 h a]
    rw [hmay]
    cases overM l r2 with
    | true => rfl
    | false =>
      simp only [Bool.not_false, Bool.true_or, Bool.and_true, Bool.false_eq_true, if_false]
      rw [fs_some, fs_some]
      congr 1
      funext p
      refine ih _ _ (fun a => by simp [h a]) ?_
      have e1 : behindM l (r1 ++ [p]) = stepAt l (behindM l r1) p := by unfold behindM; rw [List.foldl_append]; rfl
      have e2 : behindM l (r2 ++ [p]) = stepAt l (behindM l r2) p := by unfold behindM; rw [List.foldl_append]; rfl
      rw [e1, e2, hb]
/-- a is not greater than b, as the law looks at it. -/
def leR : List Int → List Int → Bool
  | [], _ => true
  | _ :: _, [] => false
  | x :: a, y :: b => if y < x then false else if x < y then true else leR a b
theorem leR_prefix : ∀ (a b : List Int), a <+: b → leR a b = true
  | [], b, _ => by unfold leR; rfl
  | x :: a, [], h => by simp at h
  | x :: a, y :: b, h => by
    rw [List.cons_prefix_cons] at h
    obtain ⟨rfl, h⟩ := h
    unfold leR
    rw [if_neg (by omega), if_neg (by omega)]
    exact leR_prefix a b h
theorem leR_less (pre : List Int) {x y : Int} (h : x < y) (a b : List Int) : leR (pre ++ x :: a) (pre ++ y :: b) = true := by
  induction pre with
  | nil => show leR (x :: a) (y :: b) = true; unfold leR; rw [if_neg (by omega), if_pos h]
  | cons z t ih => show leR (z :: (t ++ x :: a)) (z :: (t ++ y :: b)) = true; unfold leR; rw [if_neg (by omega), if_neg (by omega)]; exact ih
theorem nodup_of_ok {l : List CV} {r : List Int} (h : okRow l r = true) : r.Nodup ∧ ∀ a ∈ r, mappedB l a = true := by
  have hw := (okRow_iff.1 h).1
  unfold wholeB at hw
  rw [Bool.and_eq_true] at hw
  constructor
  · rw [List.nodup_iff_count]
    intro a
    by_cases ha : a ∈ r
    · have := List.all_eq_true.1 hw.1 a ha
      unfold okAt at this
      rw [Bool.and_eq_true, decide_eq_true_eq] at this
      exact this.2
    · rw [List.count_eq_zero.2 ha]; exact Nat.zero_le _
  · intro a ha
    have := List.all_eq_true.1 hw.1 a ha
    unfold okAt at this
    rw [Bool.and_eq_true] at this
    exact this.1
/-- Behind the first place that serves. -/
theorem fs_first {β : Type} : ∀ (P : List Int), P.Pairwise (· < ·) → ∀ (g : Int → Option β) (p : Int) (b : β), p ∈ P → g p = some b → ∃ x c, x ∈ P ∧ g x = some c ∧ P.findSome? g = some c ∧ (x < p ∨ x = p)
  | [], _, g, p, b, hp, _ => by cases hp
  | z :: t, hs, g, p, b, hp, hg => by
    rw [List.pairwise_cons] at hs
    rw [List.findSome?_cons]
    cases hz : g z with
    | some c =>
      refine ⟨z, c, by simp, hz, rfl, ?_⟩
      rcases List.mem_cons.1 hp with e | e
      · exact Or.inr e.symm
      · exact Or.inl (hs.1 p e)
    | none =>
      rcases List.mem_cons.1 hp with e | e
      · subst e; rw [hz] at hg; cases hg
      · obtain ⟨x, c, h1, h2, h3, h4⟩ := fs_first t hs.2 g p b e hg
        exact ⟨x, c, by simp [h1], h2, h3, h4⟩
theorem nodup_len : ∀ (r P : List Int), r.Nodup → (∀ a ∈ r, a ∈ P) → r.length ≤ P.length
  | [], P, _, _ => Nat.zero_le _
  | a :: r, P, hn, hs => by
    rw [List.nodup_cons] at hn
    have ha := hs a (by simp)
    have h := nodup_len r (P.erase a) hn.2 fun x hx => by
      have hne : x ≠ a := fun e => hn.1 (e ▸ hx)
      exact (List.mem_erase_of_ne hne).2 (hs x (by simp [hx]))
    rw [List.length_erase_of_mem ha] at h
    have := List.length_pos_of_mem ha
    simp only [List.length_cons]
    omega
theorem find_least {l : List CV} {r : List Int} (hr : okRow l r = true) : ∀ (f : Nat) (pre : List Int), pre <+: r → pre.length + f = (plc l).length → ∃ a, findM l false f pre = some a ∧ leR a r = true := by
  obtain ⟨hnd, hsub⟩ := nodup_of_ok hr
  have hlen : r.length ≤ (plc l).length := by
    exact nodup_len _ _ hnd fun a ha => mem_plc.2 (hsub a ha)
  intro f
  induction f with
  | zero =>
    intro pre hp hl
    have e : pre = r := by
      refine hp.eq_of_length_le ?_
      omega
    subst e
    exact ⟨pre, by unfold findM okT; rw [hr]; rfl, leR_prefix _ _ (List.prefix_refl _)⟩
  | succ f ih =>
    intro pre hp hl
    unfold findM
    cases hk : okT l false pre with
    | true => exact ⟨pre, by simp, leR_prefix _ _ hp⟩
    | false =>
      obtain ⟨ys, hys⟩ := hp
      cases ys with
      | nil =>
        rw [List.append_nil] at hys
        subst hys
        unfold okT at hk; rw [hr] at hk; cases hk
      | cons p ys =>
        have hpm : p ∈ r := by rw [← hys]; simp
        have hpn : p ∉ pre := by
          intro e
          rw [← hys, List.nodup_append] at hnd
          exact hnd.2.2 p e p (by simp) rfl
        obtain ⟨a, ha, hle⟩ := ih (pre ++ [p]) ⟨ys, by rw [← hys]; simp⟩ (by simp; omega)
        simp only [Bool.false_eq_true, if_false]
        have hin : p ∈ (plc l).filter fun p => !pre.contains p := by
          rw [List.mem_filter]
          refine ⟨mem_plc.2 (hsub p hpm), ?_⟩
          have : pre.contains p = false := by
            rw [Bool.eq_false_iff]; intro e; exact hpn (List.contains_iff_mem.1 e)
          rw [this]; rfl
        obtain ⟨x, c, hx, hc, hfs, hlt⟩ := fs_first _ ((sorted_plc l).filter _) (fun p => findM l false f (pre ++ [p])) p a hin ha
        refine ⟨c, hfs, ?_⟩
        rcases hlt with hlt | hlt
        · obtain ⟨⟨zs, hz⟩, _⟩ := findM_some f _ _ hc
          rw [← hz, ← hys, List.append_assoc]
          exact leR_less pre hlt _ _
        · subst hlt
          rw [ha] at hc
          injection hc with hc
          subst hc
          exact hle
end Go.Proofs.YtdhgacionopghaaGreatDoor.Ln
namespace Go.Proofs.YtdhgacionopghaaGreatDoor.Ln
open Go.RowKit Go.Shelf Dc DcM DcW DcI DcR DcL Sp Od
set_option linter.unusedVariables false
set_option linter.unusedSimpArgs false
def pairT (p : Pr) : List UInt8 := Lib.itoa (p.1.size : Int) ++ 46 :: (p.1.data.toList ++ (Lib.itoa (p.2.size : Int) ++ 46 :: p.2.data.toList))
def textM (m : List Pr) : List UInt8 := m.flatMap pairT
theorem itoa_dec (n : Nat) : Lib.itoa (n : Int) = Lib.decDigits n := by
  have := (Dg.itoa_pos (n := (n : Int)) (by omega))
  have h := Dg.itoa_num (n : Int)
  unfold Lib.itoa
  simp
theorem no46 {n : Nat} {c : UInt8} (h : c ∈ Lib.decDigits n) : c ≠ 46 := by
  intro e
  subst e
  have := List.all_eq_true.1 (Dg.dec_facts n).1 _ h
  unfold Dg.isD at this
  simp at this
theorem split46 : ∀ (a b x y : List UInt8), (∀ c ∈ a, c ≠ 46) → (∀ c ∈ b, c ≠ 46) → a ++ 46 :: x = b ++ 46 :: y → a = b ∧ x = y
  | [], [], x, y, _, _, h => ⟨rfl, by simpa using h⟩
  | [], d :: b, x, y, _, hb, h => by
    simp at h
    exact absurd h.1.symm (hb d (by simp))
  | c :: a, [], x, y, ha, _, h => by
    simp at h
    exact absurd h.1 (ha c (by simp))
  | c :: a, d :: b, x, y, ha, hb, h => by
    simp only [List.cons_append, List.cons.injEq] at h
    obtain ⟨h1, h2⟩ := split46 a b x y (fun e he => ha e (by simp [he])) (fun e he => hb e (by simp [he])) h.2
    exact ⟨by rw [h.1, h1], h2⟩
theorem size_toList (b : ByteArray) : b.data.toList.length = b.size := by simp
theorem block_inj {s t : ByteArray} {x y : List UInt8} (h : Lib.itoa (s.size : Int) ++ 46 :: (s.data.toList ++ x) = Lib.itoa (t.size : Int) ++ 46 :: (t.data.toList ++ y)) : s = t ∧ x = y := by
  rw [itoa_dec, itoa_dec] at h
  obtain ⟨h1, h2⟩ := split46 _ _ _ _ (fun c hc => no46 hc) (fun c hc => no46 hc) h
  have hs := Dg.dec_inj h1
  obtain ⟨h3, h4⟩ := List.append_inj h2 (by rw [size_toList, size_toList, hs])
  exact ⟨data_inj h3, h4⟩
theorem textM_inj : ∀ (m n : List Pr), textM m = textM n → m = n
  | [], [], _ => rfl
  | [], p :: n, h => by simp [textM, pairT] at h
  | p :: m, [], h => by simp [textM, pairT] at h
  | p :: m, q :: n, h => by
    unfold textM at h
    rw [List.flatMap_cons, List.flatMap_cons] at h
    unfold pairT at h
    simp only [List.append_assoc, List.cons_append] at h
    obtain ⟨h1, h2⟩ := block_inj h
    have h2' := h2
    obtain ⟨h3, h4⟩ := block_inj h2'
    have := textM_inj m n h4
    rw [this, show p = q from Prod.ext h1 h3]
end Go.Proofs.YtdhgacionopghaaGreatDoor.Ln
namespace Go.Proofs.YtdhgacionopghaaGreatDoor.Bt
open Go Go.RowKit
set_option linter.unusedVariables false
set_option linter.unusedSimpArgs false
def maskOf (f : Nat → Bool) : Nat → Nat
  | 0 => 0
  | k + 1 => maskOf f k + (if f k then 2 ^ k else 0)
theorem maskOf_lt (f : Nat → Bool) : ∀ n, maskOf f n < 2 ^ n
  | 0 => Nat.zero_lt_one
  | k + 1 => by
    have := maskOf_lt f k
    unfold maskOf
    rw [Nat.pow_succ]
    split <;> omega
theorem testBit_maskOf (f : Nat → Bool) : ∀ n i, (maskOf f n).testBit i = (decide (i < n) && f i)
  | 0, i => by simp [maskOf]
  | k + 1, i => by
    have hl := maskOf_lt f k
    unfold maskOf
    cases hf : f k with
    | false =>
      simp only [Bool.false_eq_true, if_false, Nat.add_zero]
      rw [testBit_maskOf f k i]
      by_cases h1 : i < k
      · rw [decide_eq_true h1, decide_eq_true (by omega)]
      · by_cases h2 : i = k
        · subst h2; rw [hf, Bool.and_false, Bool.and_false]
        · rw [decide_eq_false h1, decide_eq_false (by omega)]
    | true =>
      simp only [if_true]
      rw [Nat.add_comm]
      by_cases h1 : i < k
      · rw [Nat.testBit_two_pow_add_gt h1, testBit_maskOf f k i, decide_eq_true h1, decide_eq_true (by omega)]
      · by_cases h2 : i = k
        · subst h2
          rw [Nat.testBit_two_pow_add_eq, testBit_maskOf f i i, decide_eq_false (by omega), decide_eq_true (by omega), hf]; rfl
        · rw [decide_eq_false (by omega), Bool.false_and]
          refine Nat.testBit_lt_two_pow ?_
          have : 2 ^ (k + 1) ≤ 2 ^ i := Nat.pow_le_pow_right (by decide) (by omega)
          rw [Nat.pow_succ] at this
          omega
theorem maskOf_congr {f g : Nat → Bool} : ∀ {n : Nat}, (∀ i, i < n → f i = g i) → maskOf f n = maskOf g n
  | 0, _ => rfl
  | k + 1, h => by unfold maskOf; rw [maskOf_congr (n := k) fun i hi => h i (by omega), h k (by omega)]
theorem maskOf_or (f : Nat → Bool) {n i : Nat} (hi : i < n) : maskOf f n ||| 2 ^ i = maskOf (fun k => f k || decide (k = i)) n := by
  refine Nat.eq_of_testBit_eq fun j => ?_
  rw [Nat.testBit_or, testBit_maskOf, testBit_maskOf, Nat.testBit_two_pow]
  by_cases h1 : j < n
  · rw [decide_eq_true h1, Bool.true_and, Bool.true_and]
    congr 1
    rw [Bool.eq_iff_iff]; simp; omega
  · rw [decide_eq_false h1, Bool.false_and, Bool.false_and, Bool.false_or, decide_eq_false (by omega)]
theorem maskOf_off {f : Nat → Bool} {k : Nat} (h : f k = false) : maskOf f (k + 1) = maskOf f k := by
  rw [show maskOf f (k + 1) = maskOf f k + (if f k then 2 ^ k else 0) from rfl, h]; simp
theorem maskOf_on {f : Nat → Bool} {k : Nat} (h : f k = true) : maskOf f (k + 1) = maskOf f k ||| 2 ^ k := by
  refine Nat.eq_of_testBit_eq fun j => ?_
  rw [Nat.testBit_or, testBit_maskOf, testBit_maskOf, Nat.testBit_two_pow]
  by_cases h1 : j < k
  · rw [decide_eq_true h1, decide_eq_true (show j < k + 1 by omega), decide_eq_false (show ¬ k = j by omega), Bool.or_false]
  · by_cases h2 : k = j
    · subst h2
      rw [decide_eq_false h1, decide_eq_true (show k < k + 1 by omega), decide_eq_true rfl, h]; rfl
    · rw [decide_eq_false h1, decide_eq_false (show ¬ j < k + 1 by omega), decide_eq_false h2]; rfl
theorem maskOf_zero (n : Nat) : maskOf (fun _ => false) n = 0 := by
  induction n with
  | zero => rfl
  | succ k ih => unfold maskOf; rw [ih]; rfl
theorem shr_bit (m i : Nat) : (m >>> i) &&& 1 = (if m.testBit i then 1 else 0) := by
  rw [Nat.and_one_is_mod, Nat.shiftRight_eq_div_pow, Nat.testBit_eq_decide_div_mod_eq]
  have := Nat.mod_two_eq_zero_or_one (m / 2 ^ i)
  by_cases h : m / 2 ^ i % 2 = 1
  · rw [h]; simp
  · rw [show m / 2 ^ i % 2 = 0 by omega]; simp
/-- a without b. -/
def without (a b : Nat) : Nat := (BitVec.ofNat 64 a &&& ~~~ BitVec.ofNat 64 b).toNat
theorem without_zero {f g : Nat → Bool} {n : Nat} (hn : n ≤ 64) : without (maskOf f n) (maskOf g n) = 0 ↔ ∀ i, i < n → f i = true → g i = true := by
  unfold without
  have hp : ∀ h, maskOf h n < 2 ^ 64 := fun h => Nat.lt_of_lt_of_le (maskOf_lt h n) (Nat.pow_le_pow_right (by decide) hn)
  constructor
  · intro h i hi hf
    have hb := congrArg (fun x => x.testBit i) h
    simp only [Nat.zero_testBit] at hb
    rw [BitVec.testBit_toNat, BitVec.getLsbD_and, BitVec.getLsbD_not, BitVec.getLsbD_ofNat, BitVec.getLsbD_ofNat, testBit_maskOf, testBit_maskOf, decide_eq_true hi, decide_eq_true (show i < 64 by omega), hf] at hb
    simpa using hb
  · intro h
    refine Nat.eq_of_testBit_eq fun i => ?_
    rw [Nat.zero_testBit, BitVec.testBit_toNat, BitVec.getLsbD_and, BitVec.getLsbD_not, BitVec.getLsbD_ofNat, BitVec.getLsbD_ofNat, testBit_maskOf, testBit_maskOf]
    by_cases hi : i < n
    · rw [decide_eq_true hi]
      cases hf : f i with
      | false => simp
      | true => rw [h i hi hf]; simp
    · rw [decide_eq_false hi]; simp
theorem bits_andNot (a b : Nat) : bits .andNot .u64 (a : Int) (b : Int) = ((without a b : Nat) : Int) := by
  have e : ∀ n : Nat, BitVec.ofInt 64 (n : Int) = BitVec.ofNat 64 n := fun n => BitVec.ofInt_ofNat 64 n
  have hb : without a b < 18446744073709551616 := by unfold without; exact BitVec.isLt _
  unfold bits
  simp only [IntKind.bits, e]
  show IntKind.u64.wrap ((without a b : Nat) : Int) = _
  simp only [IntKind.wrap_u64]; omega
theorem bits_or (a b : Nat) (ha : a < 2 ^ 64) (hb : b < 2 ^ 64) : bits .or .u64 (a : Int) (b : Int) = ((a ||| b : Nat) : Int) := by
  have e : ∀ n : Nat, BitVec.ofInt 64 (n : Int) = BitVec.ofNat 64 n := fun n => BitVec.ofInt_ofNat 64 n
  have hab : a ||| b < 2 ^ 64 := Nat.or_lt_two_pow ha hb
  have ht : (BitVec.ofNat 64 a ||| BitVec.ofNat 64 b).toNat = a ||| b := by
    rw [BitVec.toNat_or, BitVec.toNat_ofNat, BitVec.toNat_ofNat, Nat.mod_eq_of_lt ha, Nat.mod_eq_of_lt hb]
  unfold bits
  simp only [IntKind.bits, e]
  show IntKind.u64.wrap ((BitVec.ofNat 64 a ||| BitVec.ofNat 64 b).toNat : Int) = _
  rw [ht]
  simp only [IntKind.wrap_u64]; omega
theorem bits_and1 (a : Nat) (ha : a < 2 ^ 64) : bits .and .u64 (a : Int) 1 = ((a &&& 1 : Nat) : Int) := by
  have e : ∀ n : Nat, BitVec.ofInt 64 (n : Int) = BitVec.ofNat 64 n := fun n => BitVec.ofInt_ofNat 64 n
  have e1 : BitVec.ofInt 64 1 = BitVec.ofNat 64 1 := e 1
  have hab : a &&& 1 < 2 ^ 64 := Nat.lt_of_le_of_lt Nat.and_le_left ha
  have ht : (BitVec.ofNat 64 a &&& BitVec.ofNat 64 1).toNat = a &&& 1 := by
    rw [BitVec.toNat_and, BitVec.toNat_ofNat, BitVec.toNat_ofNat, Nat.mod_eq_of_lt ha]
  unfold bits
  simp only [IntKind.bits, e, e1]
  show IntKind.u64.wrap ((BitVec.ofNat 64 a &&& BitVec.ofNat 64 1).toNat : Int) = _
  rw [ht]
  simp only [IntKind.wrap_u64]; omega
theorem run_andNot {P : Program} (T : TypeId) (a b : Nat) (w : World) : (binOp .andNot T (.int .u64 (a : Int)) (.int .u64 (b : Int))).run P w = .ok (.int .u64 ((without a b : Nat) : Int)) w := by
  have e : ∀ n : Nat, BitVec.ofInt 64 (n : Int) = BitVec.ofNat 64 n := fun n => BitVec.ofInt_ofNat 64 n
  have hb : without a b < 18446744073709551616 := by unfold without; exact BitVec.isLt _
  show (Op.intBits .andNot .u64 (a : Int) (b : Int)).run P w = _
  unfold Op.intBits
  simp only [IntKind.bits, e]
  show Result.ok (Value.int .u64 (IntKind.u64.wrap ((without a b : Nat) : Int))) w = _
  rw [show IntKind.u64.wrap ((without a b : Nat) : Int) = ((without a b : Nat) : Int) by simp only [IntKind.wrap_u64]; omega]
theorem run_or {P : Program} (T : TypeId) (a b : Nat) (ha : a < 2 ^ 64) (hb : b < 2 ^ 64) (w : World) : (binOp .or T (.int .u64 (a : Int)) (.int .u64 (b : Int))).run P w = .ok (.int .u64 ((a ||| b : Nat) : Int)) w := by
  have e : ∀ n : Nat, BitVec.ofInt 64 (n : Int) = BitVec.ofNat 64 n := fun n => BitVec.ofInt_ofNat 64 n
  have hab : a ||| b < 2 ^ 64 := Nat.or_lt_two_pow ha hb
  have ht : (BitVec.ofNat 64 a ||| BitVec.ofNat 64 b).toNat = a ||| b := by
    rw [BitVec.toNat_or, BitVec.toNat_ofNat, BitVec.toNat_ofNat, Nat.mod_eq_of_lt ha, Nat.mod_eq_of_lt hb]
  show (Op.intBits .or .u64 (a : Int) (b : Int)).run P w = _
  unfold Op.intBits
  simp only [IntKind.bits, e]
  show Result.ok (Value.int .u64 (IntKind.u64.wrap ((BitVec.ofNat 64 a ||| BitVec.ofNat 64 b).toNat : Int))) w = _
  rw [ht, show IntKind.u64.wrap ((a ||| b : Nat) : Int) = ((a ||| b : Nat) : Int) by simp only [IntKind.wrap_u64]; omega]
theorem run_and1 {P : Program} (T : TypeId) (a : Nat) (ha : a < 2 ^ 64) (w : World) : (binOp .and T (.int .u64 (a : Int)) (.int .u64 1)).run P w = .ok (.int .u64 ((a &&& 1 : Nat) : Int)) w := by
  have e : ∀ n : Nat, BitVec.ofInt 64 (n : Int) = BitVec.ofNat 64 n := fun n => BitVec.ofInt_ofNat 64 n
  have e1 : BitVec.ofInt 64 1 = BitVec.ofNat 64 1 := e 1
  have hab : a &&& 1 < 2 ^ 64 := Nat.lt_of_le_of_lt Nat.and_le_left ha
  have ht : (BitVec.ofNat 64 a &&& BitVec.ofNat 64 1).toNat = a &&& 1 := by
    rw [BitVec.toNat_and, BitVec.toNat_ofNat, BitVec.toNat_ofNat, Nat.mod_eq_of_lt ha]
  show (Op.intBits .and .u64 (a : Int) 1).run P w = _
  unfold Op.intBits
  simp only [IntKind.bits, e, e1]
  show Result.ok (Value.int .u64 (IntKind.u64.wrap ((BitVec.ofNat 64 a &&& BitVec.ofNat 64 1).toNat : Int))) w = _
  rw [ht, show IntKind.u64.wrap ((a &&& 1 : Nat) : Int) = ((a &&& 1 : Nat) : Int) by simp only [IntKind.wrap_u64]; omega]
theorem run_shr {P : Program} (T : TypeId) (a i : Nat) (hi : i < 64) (w : World) : (binOp .shr T (.int .u64 (a : Int)) (.int .i64 (i : Int))).run P w = .ok (.int .u64 ((a >>> i : Nat) : Int)) w := by
  show (Op.shift .shr .u64 (a : Int) .i64 (i : Int)).run P w = _
  unfold Op.shift
  rw [if_neg (by omega)]
  simp only [Int.toNat_natCast, IntKind.bits]
  rw [Nat.min_eq_left (by omega)]
  show Result.ok (Value.int .u64 ((a : Int).fdiv (2 ^ i))) w = _
  rw [show (a : Int).fdiv (2 ^ i) = ((a >>> i : Nat) : Int) by
    rw [Nat.shiftRight_eq_div_pow, Int.fdiv_eq_ediv_of_nonneg _ (by exact Int.le_of_lt (Int.pow_pos (by decide)))]
    simp]
theorem run_shl1 {P : Program} (T : TypeId) (i : Nat) (hi : i < 64) (w : World) : (binOp .shl T (.int .u64 1) (.int .i64 (i : Int))).run P w = .ok (.int .u64 ((2 ^ i : Nat) : Int)) w := by
  show (Op.shift .shl .u64 1 .i64 (i : Int)).run P w = _
  unfold Op.shift
  rw [if_neg (by omega)]
  simp only [Int.toNat_natCast, IntKind.bits]
  rw [Nat.min_eq_left (by omega)]
  have h2 : (2 : Nat) ^ i < 2 ^ 64 := Nat.pow_lt_pow_right (by decide) hi
  show Result.ok (Value.int .u64 (IntKind.u64.wrap (1 * 2 ^ i))) w = _
  rw [show IntKind.u64.wrap (1 * 2 ^ i) = ((2 ^ i : Nat) : Int) by
    simp only [IntKind.wrap_u64]
    have e : ((2 : Int) ^ i) = ((2 ^ i : Nat) : Int) := by simp
    rw [Int.one_mul, e]
    have h3 : ((2 ^ i : Nat) : Int) < 18446744073709551616 := by
      have : (2 ^ i : Nat) < 18446744073709551616 := h2
      omega
    generalize (2 ^ i : Nat) = x at *
    omega]
theorem wrap_pow (i : Nat) (hi : i < 64) : IntKind.u64.wrap ((2 : Int) ^ i) = ((2 ^ i : Nat) : Int) := by
  have h2 : (2 : Nat) ^ i < 2 ^ 64 := Nat.pow_lt_pow_right (by decide) hi
  simp only [IntKind.wrap_u64]
  have e : ((2 : Int) ^ i) = ((2 ^ i : Nat) : Int) := by simp
  rw [e]
  have h3 : ((2 ^ i : Nat) : Int) < 18446744073709551616 := by
    have : (2 ^ i : Nat) < 18446744073709551616 := h2
    omega
  generalize (2 ^ i : Nat) = x at *
  omega
theorem shl_one (i : Nat) (hi : i < 64) : Op.shift .shl .u64 1 .i64 (i : Int) = pure (.int .u64 ((2 ^ i : Nat) : Int)) := by
  unfold Op.shift
  rw [if_neg (by omega)]
  simp only [Int.toNat_natCast, IntKind.bits]
  rw [Nat.min_eq_left (by omega)]
  have h2 : (2 : Nat) ^ i < 2 ^ 64 := Nat.pow_lt_pow_right (by decide) hi
  rw [show IntKind.u64.wrap (1 * 2 ^ i) = ((2 ^ i : Nat) : Int) by
    simp only [IntKind.wrap_u64]
    have e : ((2 : Int) ^ i) = ((2 ^ i : Nat) : Int) := by simp
    rw [Int.one_mul, e]
    have h3 : ((2 ^ i : Nat) : Int) < 18446744073709551616 := by
      have : (2 ^ i : Nat) < 18446744073709551616 := h2
      omega
    generalize (2 ^ i : Nat) = x at *
    omega]
theorem shr_bits (a i : Nat) (hi : i < 64) : Op.shift .shr .u64 (a : Int) .i64 (i : Int) = pure (.int .u64 ((a >>> i : Nat) : Int)) := by
  unfold Op.shift
  rw [if_neg (by omega)]
  simp only [Int.toNat_natCast, IntKind.bits]
  rw [Nat.min_eq_left (by omega)]
  rw [show (a : Int).fdiv (2 ^ i) = ((a >>> i : Nat) : Int) by
    rw [Nat.shiftRight_eq_div_pow, Int.fdiv_eq_ediv_of_nonneg _ (by exact Int.le_of_lt (Int.pow_pos (by decide)))]
    simp]
end Go.Proofs.YtdhgacionopghaaGreatDoor.Bt
namespace Go.Proofs.YtdhgacionopghaaGreatDoor.Sb
open Go.RowKit Go.Shelf
set_option linter.unusedVariables false
set_option linter.unusedSimpArgs false
theorem infoB : (Tryz.prog.info? 5).map (fun i => (i.zero, i.size, i.bytes)) = some (some (.int .u8 0), 1, 1) := by kernel_rfl
theorem sizeBuilder : (Tryz.prog.info? 96).map (·.size) = some 2 := by kernel_rfl
theorem liesBuilder : liesAt Tryz.prog Tryz.prog.depth 96 (2 / Tryz.prog.cellsOf 96) 0 96 1 = true := by kernel_rfl
theorem neB5 : 96 ≠ 5 := by decide
set_option maxHeartbeats 1000000 in
set_option maxRecDepth 100000 in
theorem copy_used (b : Nat) (w : World) (h0 : w.cell? ⟨b, 0, none⟩ = some (.pointer (some ⟨b, 0, none⟩))) :
    Calls Tryz.prog 76 #[.pointer (some ⟨b, 0, none⟩)] w fun e w' => e = .returned (.tuple #[]) ∧ w' = w := by
  obtain ⟨j, hj, _⟩ := Option.map_eq_some_iff.1 sizeBuilder
  go_enter Tryz.func76, Tryz.ntmps76
  go_wp2
  rw [Lib.run_neq_ptr_same w _ Tryz.underlying93 hj]
  go_wp2
  go_end0
  exact ⟨rfl, rfl⟩
set_option maxHeartbeats 1000000 in
set_option maxRecDepth 100000 in
theorem copy_fresh (b : Nat) (w : World) (h0 : w.cell? ⟨b, 0, none⟩ = some (.pointer none)) (hsh : w.shape? b = some (96, 2)) (hfz : w.frozen? ⟨b, 0, none⟩ = false) :
    Calls Tryz.prog 76 #[.pointer (some ⟨b, 0, none⟩)] w fun e w' => e = .returned (.tuple #[]) ∧ w' = w.setCell ⟨b, 0, none⟩ (.pointer (some ⟨b, 0, none⟩)) := by
  obtain ⟨j, hj, hjs⟩ := Option.map_eq_some_iff.1 sizeBuilder
  go_enter Tryz.func76, Tryz.ntmps76
  go_wp2
  rw [Lib.run_to_unsafe w ⟨b, 0, none⟩ Tryz.underlying93 Tryz.underlying127 hj (by rw [hjs]; decide) hsh (Nat.zero_lt_succ 1)]
  simp only [Result.andThen]
  rw [Oper.upon_value]
  go_wp2
  rw [run_callFunc_extern Tryz.func92 (by kernel_rfl) (by kernel_rfl) (by kernel_rfl) (e := Extern.AbiNoEscape.same) (by kernel_rfl)]
  rw [Lib.run_noEscape]
  simp only [Result.andThen]
  rw [Oper.upon_value]
  go_wp2
  rw [Lib.run_from_unsafe w ⟨b, 0, none⟩ Tryz.underlying127 Tryz.underlying93 hj hsh liesBuilder]
  simp only [Result.andThen]
  rw [Oper.upon_value]
  go_wp2
  go_end0
  exact ⟨rfl, rfl⟩
/-- Rows of other types lie as they lay. -/
def Frm (w w' : World) : Prop := ∀ (k : Nat) (cs : Array Value) (T : TypeId) (f : Nat × Nat), w.heap[k]? = some (.cells cs T f) → T ≠ 96 → T ≠ 5 → w'.heap[k]? = w.heap[k]?
theorem Frm.refl (w : World) : Frm w w := fun _ _ _ _ _ _ _ => rfl
theorem Frm.trans {a b c : World} (h : Frm a b) (g : Frm b c) : Frm a c := fun k cs T f hk h1 h2 => (g k cs T f ((h k cs T f hk h1 h2).trans hk) h1 h2).trans (h k cs T f hk h1 h2)
theorem Frm.set {w : World} {b i : Nat} {cs : Array Value} {f : Nat × Nat} (hb : w.heap[b]? = some (.cells cs 96 f)) (v : Value) : Frm w (w.setCell ⟨b, i, none⟩ v) := fun k cs' T f' hk h1 _ => Below.heap_setCell _ _ _ _ (fun e => by
  subst e
  have := hb.symm.trans hk
  injection this with this
  injection this with _ ht
  exact h1 ht.symm)
theorem copyCheck (B b : Nat) (bs : List Value) (w : World) (h : Lib.IsBuilder 96 5 B b bs w) :
    Calls Tryz.prog 76 #[.pointer (some ⟨b, 0, none⟩)] w fun e w' => e = .returned (.tuple #[]) ∧ (Lib.BuilderAt 96 5 B b (.pointer (some ⟨b, 0, none⟩)) bs w' ∧ Below B w w' ∧ Frm w w') := by
  rcases h with h | h
  · refine (copy_fresh b w h.cell0 h.shape h.frozen0).mono ?_
    rintro e w' ⟨rfl, rfl⟩
    obtain ⟨_, v0, hb0, _⟩ := id h
    exact ⟨rfl, h.used _, (Below.refl B w).setCell (p := ⟨b, 0, none⟩) h.1 _, Frm.set hb0 _⟩
  · refine (copy_used b w h.cell0).mono ?_
    rintro e w' ⟨rfl, rfl⟩
    exact ⟨rfl, h, Below.refl B _, Frm.refl _⟩
set_option maxHeartbeats 2000000 in
set_option maxRecDepth 100000 in
theorem writeString (B b : Nat) (bs : List Value) (s : ByteArray) (w : World) (h : Lib.IsBuilder 96 5 B b bs w) (hlen : bs.length + s.size ≤ 140737488355328) (hBw : B ≤ w.heap.size) :
    Calls Tryz.prog 64 #[.pointer (some ⟨b, 0, none⟩), .string s] w fun e w' => e = .returned (.tuple #[.int .i64 s.size, .nilIface]) ∧ (Lib.BuilderAt 96 5 B b (.pointer (some ⟨b, 0, none⟩)) (bs ++ Lib.strCells s) w' ∧ Below B w w' ∧ Frm w w') := by
  obtain ⟨i0, hi, hz0, hz1, hz2⟩ := info_parts infoB
  go_enter Tryz.func64, Tryz.ntmps64
  go_wp2_with fail
  refine (copyCheck B b bs _ h).mono ?_
  rintro e w1 ⟨rfl, h1, hb1, hf1⟩
  have HF1 := Lib.hid hf1
  clear hf1
  obtain ⟨hB, v, hbk, hown, hne⟩ := h1
  have c0 : w1.cell? ⟨b, 0, none⟩ = some (.pointer (some ⟨b, 0, none⟩)) := by rw [Lib.cell_of_heap hbk]; rfl
  have c1 : w1.cell? ⟨b, 1, none⟩ = some v := by rw [Lib.cell_of_heap hbk]; rfl
  go_wp2_with (at_builtin; refine Lib.wpList_append_own_string _ rfl _ _ 94 9 rfl B 5 i0 Tryz.underlying94 Tryz.underlying9 hi hz0 hz1 hz2 _ _ _ rfl hown s rfl ?c3 ?c4 ?c5 ?_)
  case c3 => unfold maxLen; omega
  case c4 => omega
  case c5 => have := hb1.size; omega
  intro v' w2 hown' hgrow _
  have hlt : b < w1.heap.size := by
    rcases Nat.lt_or_ge b w1.heap.size with h' | h'
    · exact h'
    · simp [Array.getElem?_eq_none h'] at hbk
  have hb2 : w2.heap[b]? = some (.cells #[.pointer (some ⟨b, 0, none⟩), v] 96 (0, 0)) := by
    rw [hgrow.block b hlt (fun e => hne e.symm)]
    exact hbk
  have d0 : w2.cell? ⟨b, 0, none⟩ = some (.pointer (some ⟨b, 0, none⟩)) := by rw [Lib.cell_of_heap hb2]; rfl
  have d1 : w2.cell? ⟨b, 1, none⟩ = some v := by rw [Lib.cell_of_heap hb2]; rfl
  have f1 : w2.frozen? ⟨b, 1, none⟩ = false := Lib.frozen_of_heap hb2 1
  obtain ⟨ao, n', cap, rfl⟩ : ∃ ao n' cap, v' = .slice ao n' cap := by
    rcases hown'.2 with ⟨hv, _⟩ | ⟨g, cap, cur, hv, _⟩
    · exact ⟨_, _, _, hv⟩
    · exact ⟨_, _, _, hv⟩
  go_wp2
  go_ret2
  have hgf : Frm w1 w2 := fun k cs T f hk h1 h2 => hgrow.block k (Array.getElem?_eq_some_iff.1 hk).1 (fun e => Lib.ownBlock_ne hown hk h2 e.symm)
  refine ⟨rfl, ?_, ?_, (HF1.out.trans hgf).trans (Frm.set hb2 _)⟩
  · exact Lib.BuilderAt.put (T := 96) (e := 5) hB hb2 (bs' := bs ++ Lib.strCells s) (by simpa [Lib.strCells_length] using hown') neB5
  · exact (hb1.grown hgrow (by have := hb1.size; omega) (fun k hk => (hown.lt k hk).1)).setCell (p := ⟨b, 1, none⟩) hB _
end Go.Proofs.YtdhgacionopghaaGreatDoor.Sb
namespace Go.Proofs.YtdhgacionopghaaGreatDoor.DgP
open Go.RowKit Go.Sort Go.Lib Go.Shelf
set_option linter.unusedVariables false
abbrev Pow (w : World) : Prop := Lib.TabIs Tryz.prog w "internal/strconv.uint64pow10" .u64 Lib.pow10Tab
theorem below_grow (w : World) (k : Nat) (os : Array Obj) : Below w.heap.size w (grow (w.drewN k) os) :=
  ⟨rfl, rfl, rfl, by simp [grow], fun i hi => by
    show ((w.drewN k).heap ++ os)[i]? = _
    rw [Array.getElem?_append_left (by show i < w.heap.size; omega)]
    rfl⟩
theorem pow_below {w w' : World} (h : Pow w) (hb : Below w.heap.size w w') : Pow w' := by
  unfold Pow Lib.TabIs World.var? at *
  cases hg : Tryz.prog.globalNamed "internal/strconv.uint64pow10" with
  | none => simp [hg] at h
  | some g =>
    simp only [hg, Option.bind_some] at h ⊢
    have hlt : g < w.heap.size := by
      rcases Nat.lt_or_ge g w.heap.size with h' | h'
      · exact h'
      · rw [Array.getElem?_eq_none h'] at h; simp at h
    rw [hb.block g hlt]
    exact h
set_option maxHeartbeats 1000000 in
set_option maxRecDepth 1000000 in
theorem print_any (n : Int) (h0 : -9223372036854775808 ≤ n) (h1 : n ≤ 9223372036854775807) (w : World) (htab : Pow w) :
    Calls Tryz.prog 65 #[.int .i64 n] w fun e w' => e = .returned (.string ⟨(Lib.itoa n).toArray⟩) ∧ Below w.heap.size w w' := by
  have hc := Tryz.strconv_Itoa n h0 h1 w htab
  have HC := Lib.hid hc
  clear hc
  go_enter Tryz.func65, Tryz.ntmps65
  go_wp2_with (go_at_call 77; refine HC.out.mono ?_; rintro e w' ⟨rfl, k, os, rfl⟩)
  go_ret
  exact ⟨rfl, below_grow w k os⟩
end Go.Proofs.YtdhgacionopghaaGreatDoor.DgP
namespace Go.Proofs.YtdhgacionopghaaGreatDoor.Ln
open Go.RowKit Go.Shelf Dc DcM DcW DcI DcR DcL Sp Od
set_option linter.unusedVariables false
set_option linter.unusedSimpArgs false
abbrev IsB (B b : Nat) (l : List UInt8) (w : World) : Prop := Lib.IsBuilder 96 5 B b (Lib.byteCells l) w
theorem builder_below {B b : Nat} {p : Value} {bs : List Value} {w w' : World} (h : Lib.BuilderAt 96 5 B b p bs w) (hb : Below w.heap.size w w') : Lib.BuilderAt 96 5 B b p bs w' := by
  have hlt := h.lt
  obtain ⟨hB, v, hbk, hown, hne⟩ := h
  exact ⟨hB, v, (hb.block b hlt).trans hbk, owns_kept hown fun k cs f hk => hb.block k (Array.getElem?_eq_some_iff.1 hk).1, hne⟩
theorem isB_below {B b : Nat} {l : List UInt8} {w w' : World} (h : IsB B b l w) (hb : Below w.heap.size w w') : IsB B b l w' := by
  rcases h with h | h
  · exact Or.inl (builder_below h hb)
  · exact Or.inr (builder_below h hb)
theorem itoa_size (n : Nat) (h : n < 100000000000000000000) : (Lib.itoa (n : Int)).length ≤ 20 := by
  rw [itoa_dec]; exact Dg.dec_len 20 n (by decide) h
theorem pairT_len (p : Pr) (h : p.1.size ≤ 1000 ∧ p.2.size ≤ 1000) : (pairT p).length ≤ 3000 := by
  unfold pairT
  have h1 := itoa_size p.1.size (by omega)
  have h2 := itoa_size p.2.size (by omega)
  simp only [List.length_append, List.length_cons, size_toList]
  omega
theorem textM_len : ∀ (m : List Pr), (∀ p ∈ m, p.1.size ≤ 1000 ∧ p.2.size ≤ 1000) → (textM m).length ≤ m.length * 3000
  | [], _ => by simp [textM]
  | p :: m, h => by
    have h1 := pairT_len p (h p (by simp))
    have h2 := textM_len m fun q hq => h q (by simp [hq])
    unfold textM at h2 ⊢
    rw [List.flatMap_cons, List.length_append, List.length_cons]
    omega
theorem textM_snoc {m : List Pr} {k : Nat} {p : Pr} (h : m[k]? = some p) : textM (m.take (k + 1)) = textM (m.take k) ++ pairT p := by
  unfold textM
  rw [take_hit h, List.flatMap_append]; simp
theorem run_add {P : Program} (T : TypeId) (a b : ByteArray) (h : a.size + b.size ≤ 1000000) (W : World) : (binOp .add T (.string a) (.string b)).run P W = .ok (.string (a ++ b)) W := by
  show (Op.stringOp .add a b).run P W = _
  unfold Op.stringOp
  have hm : ¬ (((a.size + b.size : Nat) : Int) > IntKind.i64.max) := by
    show ¬ (9223372036854775807 < ((a.size + b.size : Nat) : Int))
    omega
  simp only [if_neg hm]
  rfl
set_option maxRecDepth 100000 in
set_option maxHeartbeats 8000000 in
theorem text_any (w : World) (v : Value) (m : List Pr) (hP : Prs w v m) (hn : m.length < 100000) (hs : ∀ p ∈ m, p.1.size ≤ 1000 ∧ p.2.size ≤ 1000) (hpow : DgP.Pow w) :
    Calls Tryz.prog 48 #[v] w fun e w' => e = .returned (.string ⟨(textM m).toArray⟩) ∧ Below w.heap.size w w' := by
  have HP := Lib.hid hP
  have HS := Lib.hid hs
  have HW := Lib.hid hpow
  obtain ⟨A, cap, rfl, _, _⟩ := hP
  clear hs hpow
  go_enter Tryz.func48, Tryz.ntmps48
  go_wp2_with fail
  go_loopw [8] (fun i wr => ∃ k : Nat, k ≤ m.length ∧ i = .int .i64 k ∧ IsB w.heap.size w.heap.size (textM (m.take k)) wr ∧ Below w.heap.size w wr) (fun i _ => m.length - (intOf i).toNat)
  case atStart => exact ⟨0, Nat.zero_le _, rfl, Lib.fresh_isBuilder _ _ w, (Below.refl _ _).alloc (Nat.le_refl _) _⟩
  case round =>
    obtain ⟨k, hk, rfl, hI, hB⟩ := hrel
    have HI := Lib.hid hI
    have HB := Lib.hid hB
    clear hI
    by_cases hp : k < m.length
    · obtain ⟨p, hp2⟩ : ∃ p, m[k]? = some p := ⟨_, List.getElem?_eq_getElem hp⟩
      obtain ⟨b3, o3, rfl, c1, c2⟩ := prs_at (HP.out.below hB) hp2
      have HPS := Lib.hid (HS.out p (List.mem_of_getElem? hp2))
      have HSN := Lib.hid (textM_snoc hp2)
      have HTL := Lib.hid (Nat.le_trans (textM_len (m.take k) fun q hq => HS.out q (List.mem_of_mem_take hq)) (Nat.mul_le_mul_right 3000 (show (m.take k).length ≤ 100000 by simp; omega)))
      clear hp2 hB
      obtain ⟨p1, p2⟩ := p
      dsimp only at c1 c2
      obtain ⟨WB, hWB⟩ : ∃ W, W = wr := ⟨_, rfl⟩
      subst hWB
      obtain ⟨WC, hWC⟩ : ∃ W, W = WB.alloc (.cells #[.string p1, .string p2] 74) := ⟨_, rfl⟩
      have hbc : Below WB.heap.size WB WC := by rw [hWC]; exact (Below.refl _ _).alloc (Nat.le_refl _) _
      have hx : WC.heap[WB.heap.size]? = some (.cells #[.string p1, .string p2] 74 (0, 0)) := by rw [hWC]; exact heap_alloc_new WB _
      have hxl : WB.heap.size < WC.heap.size := (Array.getElem?_eq_some_iff.1 hx).1
      have HX := Lib.hid hx
      have HWC := Lib.hid hWC
      have BC := Lib.hid (HB.out.trans (hbc.mono HB.out.size))
      have HIC := Lib.hid (isB_below HI.out hbc)
      have hpow1 := DgP.pow_below HW.out (BC.out.drew)
      have CP1 := DgP.print_any (p1.size : Int) (by omega) (by have := HPS.out.1; dsimp only at this; omega) WC.drew hpow1
      have hq1 : p1.size ≤ 1000 := HPS.out.1
      have hq2 : p2.size ≤ 1000 := HPS.out.2
      obtain ⟨d1, hd1⟩ : ∃ d : ByteArray, d = ⟨(Lib.itoa (p1.size : Int)).toArray⟩ := ⟨_, rfl⟩
      obtain ⟨d2, hd2⟩ : ∃ d : ByteArray, d = ⟨(Lib.itoa (p2.size : Int)).toArray⟩ := ⟨_, rfl⟩
      have hl1 : d1.size ≤ 20 := by rw [hd1]; show (Lib.itoa (p1.size : Int)).toArray.size ≤ 20; rw [List.size_toArray]; exact itoa_size _ (by omega)
      have hl2 : d2.size ≤ 20 := by rw [hd2]; show (Lib.itoa (p2.size : Int)).toArray.size ≤ 20; rw [List.size_toArray]; exact itoa_size _ (by omega)
      rw [← hd1] at CP1
      have CP2 := fun W (h : Below w.heap.size w W) => DgP.print_any (p2.size : Int) (by omega) (by omega) W (DgP.pow_below HW.out h)
      rw [← hd2] at CP2
      have HC1 := Lib.hid CP1
      have HC2 := Lib.hid CP2
      have HD1 := Lib.hid hd1
      have HD2 := Lib.hid hd2
      clear CP1 CP2 hd1 hd2 hpow1 hx hbc hWC
      have tok1 : True := trivial
      go_wp2_with fail
      rw [← HWC.out]
      have e0 : World.cell? WC ⟨WB.heap.size, 0, none⟩ = some (.string p1) := cell_of HX.out 0
      have e1 : World.cell? WC ⟨WB.heap.size, 1, none⟩ = some (.string p2) := cell_of HX.out 1
      have f0 : ¬ 9223372036854775807 < d1.size + 1 := by omega
      have f1 : ¬ 9223372036854775807 < d1.size + 1 + p1.size := by omega
      have f2 : ¬ 9223372036854775807 < d1.size + 1 + p1.size + d2.size := by omega
      have f3 : ¬ 9223372036854775807 < d1.size + 1 + p1.size + d2.size + 1 := by omega
      have f4 : ¬ 9223372036854775807 < d1.size + 1 + p1.size + d2.size + 1 + p2.size := by omega
      go_region_held3 (fun w' => w'.cell? ⟨WB.heap.size, 0, none⟩ = some (.string p1) ∧ w'.cell? ⟨WB.heap.size, 1, none⟩ = some (.string p2))
        (first | (go_split_ands; refine ⟨?_, ?_⟩ <;> with_reducible assumption) | go_keep)
        (first
          | (go_at_call 65; have _t := tok1; refine HC1.out.mono ?_; rintro e w3 ⟨rfl, hb3⟩; have hx3 := (hb3.block WB.heap.size hxl).trans HX.out; have hxl3 : WB.heap.size < w3.heap.size := Nat.lt_of_lt_of_le hxl hb3.size; have g0 : World.cell? w3 ⟨WB.heap.size, 0, none⟩ = some (.string p1) := cell_of hx3 0; have g1 : World.cell? w3 ⟨WB.heap.size, 1, none⟩ = some (.string p2) := cell_of hx3 1; have HX3 := Lib.hid hx3; have B3 := Lib.hid (BC.out.drew.trans (hb3.mono BC.out.size)); have HI3 := Lib.hid (isB_below HIC.out ((Below.refl _ _).drew.trans hb3)); clear tok1 hx3 hb3)
          | (go_at_call 65; refine (HC2.out w3 B3.out).mono ?_; rintro e w4 ⟨rfl, hb4⟩; have hx4 := (hb4.block WB.heap.size hxl3).trans HX3.out; have k0 : World.cell? w4 ⟨WB.heap.size, 0, none⟩ = some (.string p1) := cell_of hx4 0; have k1 : World.cell? w4 ⟨WB.heap.size, 1, none⟩ = some (.string p2) := cell_of hx4 1; have B4 := Lib.hid (B3.out.trans (hb4.mono B3.out.size)); have HI4 := Lib.hid (isB_below HI3.out hb4); have HX4 := Lib.hid hx4; clear hx4 hb4)
          | (go_at_call 64; refine (Sb.writeString w.heap.size w.heap.size _ _ w4 HI4.out (by have := HTL.out; have h46 : (⟨#[46]⟩ : ByteArray).size = 1 := rfl; simp only [ByteArray.size_append, Lib.byteCells_length]; omega) B4.out.size).mono ?_; rintro e w5 ⟨rfl, hI5, hb5, hf5⟩; have hx5 := (hf5 _ _ _ _ HX4.out (by decide) (by decide)).trans HX4.out; have q0 : World.cell? w5 ⟨WB.heap.size, 0, none⟩ = some (.string p1) := cell_of hx5 0; have q1 : World.cell? w5 ⟨WB.heap.size, 1, none⟩ = some (.string p2) := cell_of hx5 1; have HI5 := Lib.hid hI5; have B5 := Lib.hid (B4.out.trans hb5); clear hI5 hb5 hf5 hx5))
      have HT1 := Lib.hid (show Lib.byteCells (textM (m.take k)) ++ Lib.strCells (d1 ++ ⟨#[46]⟩ ++ p1 ++ d2 ++ ⟨#[46]⟩ ++ p2) = Lib.byteCells (textM (m.take (k + 1))) by
        rw [HSN.out, Lib.byteCells_append, Lib.strCells_eq]
        congr 2
        unfold pairT
        rw [HD1.out, HD2.out]
        simp)
      have HI6 := Lib.hid (show IsB w.heap.size w.heap.size (textM (m.take (k + 1))) w5 from Or.inr (by rw [← HT1.out]; exact HI5.out))
      clear e0 e1 g0 g1 k0 k1 q0 q1 f0 f1 f2 f3 f4
      go_wp2_with fail
      exact ⟨⟨k + 1, by omega, by go_num, HI6.out, B5.out⟩, by show m.length - ((k : Int) + 1).toNat < m.length - (k : Int).toNat; omega⟩
    · have hkk : k = m.length := by omega
      subst hkk
      have hI := HI.out
      rw [List.take_length] at hI
      have CS := Lib.hid (Tryz.Builder_String_any w.heap.size w.heap.size (textM m) wr hI HB.out.size)
      clear hI hB
      go_wp2_with fail
      refine CS.out.mono ?_
      rintro e w5 ⟨rfl, hb5⟩
      have B5 := Lib.hid (HB.out.trans hb5)
      clear hb5
      go_wp2_with fail
      go_ret
      exact ⟨rfl, B5.out⟩
end Go.Proofs.YtdhgacionopghaaGreatDoor.Ln
namespace Go.Proofs.YtdhgacionopghaaGreatDoor.Ln
open Go.RowKit Go.Shelf Dc DcM DcW DcI DcR DcL Sp Od
set_option linter.unusedVariables false
set_option linter.unusedSimpArgs false
def plcK (l : List CV) (k : Nat) : List Int := ((List.range k).filter fun (i : Nat) => mappedB l (i : Int)).map fun (i : Nat) => (i : Int)
theorem plcK_all (l : List CV) : plcK l l.length = plc l := rfl
theorem plcK_snoc (l : List CV) (k : Nat) : plcK l (k + 1) = plcK l k ++ (if mappedB l (k : Int) then [(k : Int)] else []) := by
  unfold plcK
  rw [List.range_succ, List.filter_append, List.map_append]
  cases h : mappedB l (k : Int) <;> simp [h]
theorem plcK_len (l : List CV) (k : Nat) : (plcK l k).length ≤ k := by
  unfold plcK
  rw [List.length_map]
  exact Nat.le_trans (List.length_filter_le _ _) (by simp)
theorem mapped_kind {l : List CV} {k : Nat} {q : CV} (h : l[k]? = some q) : mappedB l (k : Int) = (decide (1 ≤ q.1.op.kind) && decide (q.1.op.kind ≤ 9)) := by
  unfold mappedB; rw [decide_eq_true (by omega), Int.toNat_natCast, h]; rfl
set_option maxHeartbeats 2000000 in
theorem clos_mapped (w : World) (k : Int) :
    Calls Tryz.prog 33 #[.int .i64 k] w fun e w' => e = .returned (.bool (decide (1 ≤ k) && decide (k ≤ 9))) ∧ w' = w := by
  go_enter Tryz.func33, Tryz.ntmps33
  go_wp2
  all_goals go_ret
  all_goals refine ⟨bool_ret ?_, rfl⟩
  all_goals (rw [Bool.eq_iff_iff]; simp only [Bool.and_eq_true, decide_eq_true_eq, false_iff, Bool.false_eq_true]; omega)
set_option maxRecDepth 100000 in
set_option maxHeartbeats 8000000 in
theorem placesM_any (w : World) (v : Value) (l : List CV) (h : Cls w v l) (hn : l.length < 1000000) :
    Calls Tryz.prog 32 #[v, .func (.func 33) #[] #[]] w fun e w' => ∃ v', e = .returned v' ∧ w'.ownsRow w.heap.size 3 1 v' (plc l).length ((plc l).map (Value.int .i64)) ∧ Below w.heap.size w w' := by
  obtain ⟨i0, hi, hz0, hz1, hz2⟩ := info_parts infoI
  obtain ⟨A, cap, rfl, hcl⟩ := h
  have HC := Lib.hid hcl
  clear hcl
  go_enter Tryz.func32, Tryz.ntmps32
  go_wp2_with fail
  go_loopw [5, 10] (fun ov i wr => ∃ k : Nat, k ≤ l.length ∧ i = .int .i64 k ∧ wr.ownsRow w.heap.size 3 1 ov (plcK l k).length ((plcK l k).map (Value.int .i64)) ∧ Below w.heap.size w wr) (fun _ i _ => l.length - (intOf i).toNat)
  case atStart => exact ⟨0, Nat.zero_le _, rfl, World.ownsRow_nil _ _ _ _, Below.refl _ _⟩
  case round =>
    obtain ⟨k, hk, rfl, hrow, hB⟩ := hrel
    have HR := Lib.hid hrow
    have HB := Lib.hid hB
    have hlk := plcK_len l k
    have hsz := hB.size
    by_cases hp : k < l.length
    · obtain ⟨q, hq⟩ : ∃ q, l[k]? = some q := ⟨_, List.getElem?_eq_getElem hp⟩
      obtain ⟨hpq, _, _, _, _, b2, z2, rfl, hbl2, hcq⟩ := HC.out k q hq
      obtain ⟨Ap, cp, ep, _⟩ := id hpq
      rw [ep] at hcq
      have HQ := Lib.hid (mapped_kind hq)
      have HSN := Lib.hid (plcK_snoc l k)
      have k0 : World.cell? wr ⟨b2, z2 + k * 15, none⟩ = some (.int .i64 q.1.thread) := (hB.cell (p := ⟨b2, z2 + k * 15, none⟩) hbl2).trans (hcq 0 _ rfl)
      have k1 : World.cell? wr ⟨b2, z2 + k * 15 + 1, none⟩ = some (.int .i64 q.1.index) := (hB.cell (p := ⟨b2, z2 + k * 15 + 1, none⟩) hbl2).trans (hcq 1 _ rfl)
      have k2 : World.cell? wr ⟨b2, z2 + k * 15 + 2, none⟩ = some (.int .i64 q.1.op.kind) := (hB.cell (p := ⟨b2, z2 + k * 15 + 2, none⟩) hbl2).trans (hcq 2 _ rfl)
      have k3 : World.cell? wr ⟨b2, z2 + k * 15 + 3, none⟩ = some (.string q.1.op.key) := (hB.cell (p := ⟨b2, z2 + k * 15 + 3, none⟩) hbl2).trans (hcq 3 _ rfl)
      have k4 : World.cell? wr ⟨b2, z2 + k * 15 + 4, none⟩ = some (.string q.1.op.value) := (hB.cell (p := ⟨b2, z2 + k * 15 + 4, none⟩) hbl2).trans (hcq 4 _ rfl)
      have k5 : World.cell? wr ⟨b2, z2 + k * 15 + 5, none⟩ = some (.string q.1.op.old) := (hB.cell (p := ⟨b2, z2 + k * 15 + 5, none⟩) hbl2).trans (hcq 5 _ rfl)
      have k6 : World.cell? wr ⟨b2, z2 + k * 15 + 6, none⟩ = some (.int .i64 q.1.begin_) := (hB.cell (p := ⟨b2, z2 + k * 15 + 6, none⟩) hbl2).trans (hcq 6 _ rfl)
      have k7 : World.cell? wr ⟨b2, z2 + k * 15 + 7, none⟩ = some (.int .i64 q.1.end_) := (hB.cell (p := ⟨b2, z2 + k * 15 + 7, none⟩) hbl2).trans (hcq 7 _ rfl)
      have k8 : World.cell? wr ⟨b2, z2 + k * 15 + 8, none⟩ = some (.bool q.1.done) := (hB.cell (p := ⟨b2, z2 + k * 15 + 8, none⟩) hbl2).trans (hcq 8 _ rfl)
      have k9 : World.cell? wr ⟨b2, z2 + k * 15 + 9, none⟩ = some (.int .i64 q.1.reply.err) := (hB.cell (p := ⟨b2, z2 + k * 15 + 9, none⟩) hbl2).trans (hcq 9 _ rfl)
      have k10 : World.cell? wr ⟨b2, z2 + k * 15 + 10, none⟩ = some (.bool q.1.reply.had) := (hB.cell (p := ⟨b2, z2 + k * 15 + 10, none⟩) hbl2).trans (hcq 10 _ rfl)
      have k11 : World.cell? wr ⟨b2, z2 + k * 15 + 11, none⟩ = some (.bool q.1.reply.did) := (hB.cell (p := ⟨b2, z2 + k * 15 + 11, none⟩) hbl2).trans (hcq 11 _ rfl)
      have k12 : World.cell? wr ⟨b2, z2 + k * 15 + 12, none⟩ = some (.string q.1.reply.value) := (hB.cell (p := ⟨b2, z2 + k * 15 + 12, none⟩) hbl2).trans (hcq 12 _ rfl)
      have k13 : World.cell? wr ⟨b2, z2 + k * 15 + 13, none⟩ = some (.int .i64 q.1.reply.n) := (hB.cell (p := ⟨b2, z2 + k * 15 + 13, none⟩) hbl2).trans (hcq 13 _ rfl)
      have k14 : World.cell? wr ⟨b2, z2 + k * 15 + 14, none⟩ = some (.slice Ap q.1.reply.pairs.length cp) := (hB.cell (p := ⟨b2, z2 + k * 15 + 14, none⟩) hbl2).trans (hcq 14 _ rfl)
      have hrow1 := hrow.alloc (.cells #[.int .i64 q.1.thread, .int .i64 q.1.index, .int .i64 q.1.op.kind, .string q.1.op.key, .string q.1.op.value, .string q.1.op.old, .int .i64 q.1.begin_, .int .i64 q.1.end_, .bool q.1.done, .int .i64 q.1.reply.err, .bool q.1.reply.had, .bool q.1.reply.did, .string q.1.reply.value, .int .i64 q.1.reply.n, .slice Ap q.1.reply.pairs.length cp] 44)
      have hg1 := hB.alloc hsz (.cells #[.int .i64 q.1.thread, .int .i64 q.1.index, .int .i64 q.1.op.kind, .string q.1.op.key, .string q.1.op.value, .string q.1.op.old, .int .i64 q.1.begin_, .int .i64 q.1.end_, .bool q.1.done, .int .i64 q.1.reply.err, .bool q.1.reply.had, .bool q.1.reply.did, .string q.1.reply.value, .int .i64 q.1.reply.n, .slice Ap q.1.reply.pairs.length cp] 44)
      obtain ⟨WC, hWC⟩ : ∃ W, W = wr.alloc (.cells #[.int .i64 q.1.thread, .int .i64 q.1.index, .int .i64 q.1.op.kind, .string q.1.op.key, .string q.1.op.value, .string q.1.op.old, .int .i64 q.1.begin_, .int .i64 q.1.end_, .bool q.1.done, .int .i64 q.1.reply.err, .bool q.1.reply.had, .bool q.1.reply.did, .string q.1.reply.value, .int .i64 q.1.reply.n, .slice Ap q.1.reply.pairs.length cp] 44) := ⟨_, rfl⟩
      rw [← hWC] at hrow1 hg1
      have HWC := Lib.hid hWC
      have HB1 := Lib.hid hg1
      clear hq hpq ep hcq hB hg1 hrow hWC
      go_wp2_with fail
      rw [← HWC.out]
      refine (clos_mapped _ q.1.op.kind).mono ?_
      clear k0 k1 k2 k3 k4 k5 k6 k7 k8 k9 k10 k11 k12 k13 k14
      rw [← HQ.out]
      cases hke : mappedB l (k : Int) with
      | true =>
        rintro e w1 ⟨rfl, hw1⟩
        subst hw1
        have HSN1 := Lib.hid (show plcK l (k + 1) = plcK l k ++ [(k : Int)] by rw [HSN.out, if_pos hke])
        have hsz1 := HB1.out.size
        clear hke
        go_wp2_with (at_builtin; refine wpList_append_own _ rfl _ _ 23 rfl w.heap.size 3 i0 (.int .i64 0) 1 8 Tryz.underlying23 hi hz0 hz1 hz2 rfl (by decide) _ _ _ rfl (hrow1.alloc _) _ 1 1 [.int .i64 k] rfl rfl (cell_one_new _ _ _) (by simp [Value.oneCell']) (by simp [maxLen]; omega) (by omega) (by simp; omega) ?_; intro v9 w9 hown9 hgrow9 hnil9; have HO := Lib.hid hown9; have HG := Lib.hid hgrow9; clear hown9 hgrow9 hnil9)
        refine ⟨⟨k + 1, by omega, by go_num, ?_, (HB1.out.alloc hsz1 _).grown HG.out (by simp; omega) (fun gg hgg => (World.ownsRow.lt hrow1 gg hgg).1)⟩, by show l.length - ((k : Int) + 1).toNat < l.length - (k : Int).toNat; omega⟩
        rw [HSN1.out]
        have := HO.out
        simpa using this
      | false =>
        rintro e w1 ⟨rfl, hw1⟩
        subst hw1
        have HSN1 := Lib.hid (show plcK l (k + 1) = plcK l k ++ [] by rw [HSN.out, if_neg (by rw [hke]; decide)])
        have HR1 := Lib.hid hrow1
        clear hke hrow1
        go_wp2_with fail
        refine ⟨⟨k + 1, by omega, by go_num, ?_, HB1.out⟩, by show l.length - ((k : Int) + 1).toNat < l.length - (k : Int).toNat; omega⟩
        rw [HSN1.out, List.append_nil]
        exact HR1.out
    · obtain rfl : k = l.length := by omega
      clear hB hrow
      go_wp2_with fail
      go_ret
      exact ⟨_, rfl, HR.out, HB.out⟩
set_option maxHeartbeats 4000000 in
theorem mappedL_any (w : World) (v : Value) (l : List CV) (h : Cls w v l) (hn : l.length < 1000000) :
    Calls Tryz.prog 16 #[v] w fun e w' => ∃ v', e = .returned v' ∧ w'.ownsRow w.heap.size 3 1 v' (plc l).length ((plc l).map (Value.int .i64)) ∧ Below w.heap.size w w' := by
  have C := Lib.hid (placesM_any w v l h hn)
  obtain ⟨A, cap, rfl, _⟩ := h
  go_enter Tryz.func16, Tryz.ntmps16
  go_wp2_with fail
  refine C.out.mono ?_
  rintro e w1 ⟨v1, rfl, hr, hb⟩
  have HR := Lib.hid hr
  have HB := Lib.hid hb
  obtain ⟨A1, c1, rfl⟩ := owns_shape hr
  clear hr hb
  go_wp2_with fail
  go_ret
  exact ⟨_, rfl, HR.out, HB.out⟩
set_option maxRecDepth 100000 in
set_option maxHeartbeats 8000000 in
theorem mappedL_ref (w : World) (v : Value) (l : List CV) (h : Cls w v l) (hn : l.length < 1000000) :
    Calls Tryz.prog 10 #[v] w fun e w' => ∃ v', e = .returned v' ∧ w'.ownsRow w.heap.size 3 1 v' (plc l).length ((plc l).map (Value.int .i64)) ∧ Below w.heap.size w w' := by
  obtain ⟨i0, hi, hz0, hz1, hz2⟩ := info_parts infoI
  obtain ⟨A, cap, rfl, hcl⟩ := h
  have HC := Lib.hid hcl
  clear hcl
  go_enter Tryz.func10, Tryz.ntmps10
  go_wp2_with fail
  go_loopw [3, 4] (fun ov i wr => ∃ k : Nat, k ≤ l.length ∧ i = .int .i64 k ∧ wr.ownsRow w.heap.size 3 1 ov (plcK l k).length ((plcK l k).map (Value.int .i64)) ∧ Below w.heap.size w wr) (fun _ i _ => l.length - (intOf i).toNat)
  case atStart => exact ⟨0, Nat.zero_le _, rfl, World.ownsRow_lit (base := w.heap.size) (e := 3) (size := 1) w #[] 0 (Nat.le_refl _) (by decide) rfl, (Below.refl _ _).alloc (Nat.le_refl _) _⟩
  case round =>
    obtain ⟨k, hk, rfl, hrow, hB⟩ := hrel
    have HR := Lib.hid hrow
    have HB := Lib.hid hB
    have hlk := plcK_len l k
    have hsz := hB.size
    by_cases hp : k < l.length
    · obtain ⟨q, hq⟩ : ∃ q, l[k]? = some q := ⟨_, List.getElem?_eq_getElem hp⟩
      obtain ⟨hpq, _, _, _, _, b2, z2, rfl, hbl2, hcq⟩ := HC.out k q hq
      have HQ := Lib.hid (mapped_kind hq)
      have HSN := Lib.hid (plcK_snoc l k)
      have k2 : World.cell? wr ⟨b2, z2 + k * 15 + 2, none⟩ = some (.int .i64 q.1.op.kind) := (hB.cell (p := ⟨b2, z2 + k * 15 + 2, none⟩) hbl2).trans (hcq 2 _ rfl)
      obtain ⟨kd, hkd⟩ : ∃ x, x = q.1.op.kind := ⟨_, rfl⟩
      rw [← hkd] at k2 HQ
      clear hq hpq hcq hB hkd
      by_cases h1 : 1 ≤ kd
      · by_cases h9 : kd ≤ 9
        · have HSN1 := Lib.hid (show plcK l (k + 1) = plcK l k ++ [(k : Int)] by rw [HSN.out, HQ.out, decide_eq_true h1, decide_eq_true h9]; simp)
          go_wp2_with (at_builtin; refine wpList_append_own _ rfl _ _ 23 rfl w.heap.size 3 i0 (.int .i64 0) 1 8 Tryz.underlying23 hi hz0 hz1 hz2 rfl (by decide) _ _ _ rfl (hrow.alloc _) _ 1 1 [.int .i64 k] rfl rfl (cell_one_new _ _ _) (by simp [Value.oneCell']) (by simp [maxLen]; omega) (by omega) (by simp; omega) ?_; intro v9 w9 hown9 hgrow9 hnil9; have HO := Lib.hid hown9; have HG := Lib.hid hgrow9; clear hown9 hgrow9 hnil9)
          refine ⟨⟨k + 1, by omega, by go_num, ?_, (HB.out.alloc hsz _).grown HG.out (by simp; omega) (fun gg hgg => (World.ownsRow.lt hrow gg hgg).1)⟩, by show l.length - ((k : Int) + 1).toNat < l.length - (k : Int).toNat; omega⟩
          rw [HSN1.out]
          have := HO.out
          simpa using this
        · have HSN1 := Lib.hid (show plcK l (k + 1) = plcK l k ++ [] by rw [HSN.out, HQ.out, decide_eq_false h9, Bool.and_false]; simp)
          clear hrow
          go_wp2_with fail
          refine ⟨⟨k + 1, by omega, by go_num, ?_, HB.out⟩, by show l.length - ((k : Int) + 1).toNat < l.length - (k : Int).toNat; omega⟩
          rw [HSN1.out, List.append_nil]
          exact HR.out
      · have HSN1 := Lib.hid (show plcK l (k + 1) = plcK l k ++ [] by rw [HSN.out, HQ.out, decide_eq_false h1, Bool.false_and]; simp)
        clear hrow
        go_wp2_with fail
        refine ⟨⟨k + 1, by omega, by go_num, ?_, HB.out⟩, by show l.length - ((k : Int) + 1).toNat < l.length - (k : Int).toNat; omega⟩
        rw [HSN1.out, List.append_nil]
        exact HR.out
    · obtain rfl : k = l.length := by omega
      clear hB hrow
      go_wp2_with fail
      go_ret
      exact ⟨_, rfl, HR.out, HB.out⟩
set_option maxHeartbeats 4000000 in
theorem has_ref (w : World) (v : Value) (row : List Int) (x : Int) (h : Its w v row) (hn : row.length < 1000000) :
    Calls Tryz.prog 22 #[v, .int .i64 x] w fun e w' => e = .returned (.bool (row.contains x)) ∧ w' = w := by
  obtain ⟨A, cap, rfl, _, hc⟩ := h
  have HC := Lib.hid hc
  clear hc
  go_enter Tryz.func22, Tryz.ntmps22
  go_wp2
  go_loopw [5] (fun i wr => ∃ k : Nat, k ≤ row.length ∧ i = .int .i64 k ∧ (row.take k).any (fun y => decide (y = x)) = false ∧ wr = w) (fun i _ => row.length - (intOf i).toNat)
  case atStart => exact ⟨0, Nat.zero_le _, rfl, rfl, rfl⟩
  case round =>
    obtain ⟨k, hk, rfl, hany, rfl⟩ := hrel
    have HA := Lib.hid hany
    clear hany
    by_cases hp : k < row.length
    · obtain ⟨y, hy⟩ : ∃ y, row[k]? = some y := ⟨_, List.getElem?_eq_getElem hp⟩
      obtain ⟨b, z, rfl, hbl, hcell⟩ := HC.out k y hy
      have HY := Lib.hid hy
      clear hy
      by_cases he : y = x
      · have HT := Lib.hid (show row.contains x = true by rw [List.contains_iff_mem, ← he]; exact List.mem_of_getElem? HY.out)
        subst he
        go_wp2
        go_ret
        exact ⟨bool_ret HT.out.symm, rfl⟩
      · have hb : (y == x) = false := by simp [he]
        have HN := Lib.hid (show (row.take (k + 1)).any (fun y => decide (y = x)) = false by rw [any_snoc HY.out HA.out]; exact decide_eq_false he)
        clear he
        go_wp2
        exact ⟨⟨k + 1, by omega, by go_num, HN.out, trivial⟩, by show row.length - ((k : Int) + 1).toNat < row.length - (k : Int).toNat; omega⟩
    · have HF := Lib.hid (show row.contains x = false by
        have := any_end HA.out (by omega)
        rw [Bool.eq_false_iff]
        intro hc
        have h1 : row.any (fun y => decide (y = x)) = true := List.any_eq_true.2 ⟨x, List.contains_iff_mem.1 hc, by simp⟩
        rw [this] at h1; cases h1)
      go_wp2
      go_ret
      exact ⟨bool_ret HF.out.symm, rfl⟩
set_option maxHeartbeats 4000000 in
theorem ints_ref (w : World) (v u : Value) (a b : List Int) (h : Its w v a) (h' : Its w u b) (hn : a.length < 1000000) (hn' : b.length < 1000000) :
    Calls Tryz.prog 7 #[v, u] w fun e w' => e = .returned (.bool (decide (a = b))) ∧ Below w.heap.size w w' := by
  obtain ⟨A, cap, rfl, _, hc⟩ := h
  obtain ⟨B, cap', rfl, _, hc'⟩ := h'
  have HC := Lib.hid hc
  have HC' := Lib.hid hc'
  clear hc hc'
  by_cases hl : a.length = b.length
  case neg =>
    have HF := Lib.hid (show decide (a = b) = false by rw [decide_eq_false_iff_not]; intro e; exact hl (by rw [e]))
    have hb0 : (a.length != b.length) = true := by simp [hl]
    have hb1 : ((a.length : Int) != (b.length : Int)) = true := by simp; omega
    go_enter Tryz.func7, Tryz.ntmps7
    go_wp2_with fail
    go_ret
    exact ⟨bool_ret HF.out.symm, Below.refl _ _⟩
  have hlb : b.length = a.length := hl.symm
  rw [hlb]
  have HL := Lib.hid hl
  clear hl hlb
  go_enter Tryz.func7, Tryz.ntmps7
  go_wp2_with fail
  go_loopw [5] (fun i wr => ∃ k : Nat, k ≤ a.length ∧ i = .int .i64 k ∧ a.take k = b.take k ∧ ∃ n, wr = w.drewN n) (fun i _ => a.length - (intOf i).toNat)
  case atStart => exact ⟨0, Nat.zero_le _, rfl, rfl, 0, rfl⟩
  case round =>
    obtain ⟨k, hk, rfl, hs, n, rfl⟩ := hrel
    have HS := Lib.hid hs
    clear hs
    by_cases hp : k < a.length
    · obtain ⟨x, hx⟩ : ∃ y, a[k]? = some y := ⟨_, List.getElem?_eq_getElem hp⟩
      obtain ⟨y, hy⟩ : ∃ y, b[k]? = some y := ⟨_, List.getElem?_eq_getElem (by rw [← HL.out]; exact hp)⟩
      obtain ⟨b1, z1, rfl, hbl1, hcell1⟩ := HC.out k x hx
      obtain ⟨b2, z2, rfl, hbl2, hcell2⟩ := HC'.out k y hy
      have HX := Lib.hid hx
      have HY := Lib.hid hy
      clear hx hy
      by_cases he : x = y
      · subst he
        go_wp2_with fail
        go_quiet (fail)
        go_wp2_with fail
        refine ⟨⟨k + 1, by omega, by go_num, ?_, n + nq, rfl⟩, by show a.length - ((k : Int) + 1).toNat < a.length - (k : Int).toNat; omega⟩
        rw [take_snoc HX.out, take_snoc HY.out, HS.out]
      · have hb : (x != y) = true := by simp [he]
        have HF := Lib.hid (show decide (a = b) = false by
          rw [decide_eq_false_iff_not]
          intro e
          have h1 := HX.out
          rw [e, HY.out] at h1
          exact he (Option.some.inj h1).symm)
        go_wp2_with fail
        go_quiet (fail)
        go_wp2_with fail
        go_ret
        exact ⟨bool_ret HF.out.symm, below_drewN (below_drewN (Below.refl _ _) n) nq⟩
    · have HT := Lib.hid (show decide (a = b) = true by
        rw [decide_eq_true_eq]
        have := HS.out
        rwa [List.take_of_length_le (by omega), List.take_of_length_le (by rw [← HL.out]; omega)] at this)
      go_wp2_with fail
      go_ret
      exact ⟨bool_ret HT.out.symm, below_drewN (Below.refl _ _) n⟩
end Go.Proofs.YtdhgacionopghaaGreatDoor.Ln
namespace Go.Proofs.YtdhgacionopghaaGreatDoor.Ln
open Go.RowKit Go.Shelf Dc DcM DcW DcI DcR DcL Sp Od Bq Bt
set_option linter.unusedVariables false
set_option linter.unusedSimpArgs false
/-- A slice of words lies in w. -/
def Wds (w : World) (v : Value) (l : List Nat) : Prop := ∃ (A : Option Addr) (cap : Nat), v = .slice A l.length cap ∧ l.length ≤ cap ∧
  ∀ (j x : Nat), l[j]? = some x → ∃ b z, A = some ⟨b, z, none⟩ ∧ b < w.heap.size ∧ w.cell? ⟨b, z + j, none⟩ = some (.int .u64 (x : Int))
theorem Wds.below {w w' : World} {v : Value} {l : List Nat} (h : Wds w v l) (hb : Below w.heap.size w w') : Wds w' v l := by
  obtain ⟨A, cap, rfl, hcap, hc⟩ := h
  refine ⟨A, cap, rfl, hcap, fun j x hx => ?_⟩
  obtain ⟨b, z, hz, hbl, hcell⟩ := hc j x hx
  exact ⟨b, z, hz, Nat.lt_of_lt_of_le hbl hb.size, (hb.cell (p := ⟨b, z + j, none⟩) hbl).trans hcell⟩
def plcAt (l : List CV) (i : Nat) : Int := (plc l).getD i (-1)
theorem plcAt_eq {l : List CV} {i : Nat} {p : Int} (h : (plc l)[i]? = some p) : plcAt l i = p := by
  unfold plcAt; rw [List.getD_eq_getElem?_getD, h]; rfl
def aheadF (l : List CV) (i k : Nat) : Bool := !decide (k = i) && aheadB l (plcAt l k) (plcAt l i)
def doneF (l : List CV) (i : Nat) : Bool := doneAt l (plcAt l i).toNat
def usedF (l : List CV) (row : List Int) (i : Nat) : Bool := row.contains (plcAt l i)
def maskR (l : List CV) (row : List Int) : Nat := maskOf (usedF l row) (plc l).length
def mustN (l : List CV) : Nat := maskOf (doneF l) (plc l).length
def aheadN (l : List CV) (i : Nat) : Nat := maskOf (aheadF l i) (plc l).length
def aheadL (l : List CV) : List Nat := (List.range (plc l).length).map (aheadN l)
theorem over_mask {l : List CV} {row : List Int} (hn : (plc l).length ≤ 64) : decide (without (mustN l) (maskR l row) = 0) = overM l row := by
  rw [Bool.eq_iff_iff, decide_eq_true_eq]
  unfold mustN maskR
  rw [without_zero hn]
  unfold overM
  rw [List.all_eq_true]
  constructor
  · intro h a ha
    obtain ⟨i, hi⟩ := List.mem_iff_getElem?.1 ha
    have hl := (List.getElem?_eq_some_iff.1 hi).1
    have := h i hl
    unfold doneF usedF at this
    rw [plcAt_eq hi] at this
    cases hd : doneAt l a.toNat with
    | false => rfl
    | true => rw [this hd]; rfl
  · intro h i hi hd
    obtain ⟨a, ha⟩ : ∃ a, (plc l)[i]? = some a := ⟨_, List.getElem?_eq_getElem hi⟩
    have := h a (List.mem_of_getElem? ha)
    unfold doneF at hd
    unfold usedF
    rw [plcAt_eq ha] at hd ⊢
    rw [hd] at this
    simpa using this
theorem ready_mask {l : List CV} {row : List Int} {i : Nat} {p : Int} (hn : (plc l).length ≤ 64) (hp : (plc l)[i]? = some p) : decide (without (aheadN l i) (maskR l row) = 0) = readyB l row p := by
  rw [Bool.eq_iff_iff, decide_eq_true_eq]
  unfold aheadN maskR
  rw [without_zero hn]
  unfold readyB
  rw [List.all_eq_true]
  constructor
  · intro h a ha
    obtain ⟨k, hk⟩ := List.mem_iff_getElem?.1 ha
    have hl := (List.getElem?_eq_some_iff.1 hk).1
    have := h k hl
    unfold aheadF usedF at this
    rw [plcAt_eq hk, plcAt_eq hp] at this
    by_cases hki : k = i
    · subst hki
      rw [hp] at hk
      injection hk with hk
      rw [decide_eq_true hk.symm]; rfl
    · cases hab : aheadB l a p with
      | false => simp
      | true =>
        rw [decide_eq_false hki, hab] at this
        rw [this rfl]; simp
  · intro h k hk hab
    obtain ⟨a, ha⟩ : ∃ a, (plc l)[k]? = some a := ⟨_, List.getElem?_eq_getElem hk⟩
    have := h a (List.mem_of_getElem? ha)
    unfold aheadF at hab
    unfold usedF
    rw [plcAt_eq ha] at hab ⊢
    rw [plcAt_eq hp] at hab
    simp only [Bool.and_eq_true, Bool.not_eq_true', decide_eq_false_iff_not] at hab
    rw [hab.2] at this
    have hne : a ≠ p := by
      intro e
      subst e
      refine hab.1 ?_
      have h1 := nodup_plc l
      exact (List.getElem?_inj hk h1).1 (ha.trans hp.symm) 
    rw [decide_eq_false hne] at this
    simpa using this
theorem bit_mask {l : List CV} {row : List Int} {i : Nat} {p : Int} (hp : (plc l)[i]? = some p) : (maskR l row).testBit i = row.contains p := by
  have hl := (List.getElem?_eq_some_iff.1 hp).1
  unfold maskR
  rw [testBit_maskOf, decide_eq_true hl, Bool.true_and]
  unfold usedF
  rw [plcAt_eq hp]
theorem mask_snoc {l : List CV} {row : List Int} {i : Nat} {p : Int} (hp : (plc l)[i]? = some p) : maskR l row ||| 2 ^ i = maskR l (row ++ [p]) := by
  have hl := (List.getElem?_eq_some_iff.1 hp).1
  unfold maskR
  rw [maskOf_or _ hl]
  refine maskOf_congr fun k hk => ?_
  obtain ⟨a, ha⟩ : ∃ a, (plc l)[k]? = some a := ⟨_, List.getElem?_eq_getElem hk⟩
  unfold usedF
  rw [plcAt_eq ha, Bool.eq_iff_iff]
  simp only [Bool.or_eq_true, decide_eq_true_eq, List.contains_iff_mem, List.mem_append, List.mem_singleton]
  constructor
  · rintro (h | h)
    · exact Or.inl h
    · subst h; rw [ha] at hp; exact Or.inr (Option.some.inj hp)
  · rintro (h | h)
    · exact Or.inl h
    · subst h
      exact Or.inr ((List.getElem?_inj hk (nodup_plc l)).1 (ha.trans hp.symm))
theorem mask_lt {l : List CV} {row : List Int} (hn : (plc l).length ≤ 64) : maskR l row < 2 ^ 64 := Nat.lt_of_lt_of_le (maskOf_lt _ _) (Nat.pow_le_pow_right (by decide) hn)
/-- The finder's cells. -/
def finC (cv pv av : Value) (must : Nat) (mb : Nat) (rv : Value) (tours : Bool) : Array Value := #[cv, pv, av, .int .u64 (must : Int), .map (some mb), rv, .bool tours]
set_option maxRecDepth 100000 in
set_option maxHeartbeats 8000000 in
theorem over_any (w : World) (fb mb : Nat) (cv pv av rv : Value) (used : Nat) (tours : Bool) (l : List CV) (row : List Int) (hF : w.heap[fb]? = some (.cells (finC cv pv av (mustN l) mb rv tours) 65 (0, 0))) (hC : Cls w cv l) (hR : Its w rv row) (hn : l.length < 1000000) (hn' : row.length < 10000) (hlp : ∀ (j : Nat) (q : CV), l[j]? = some q → q.1.reply.pairs.length < 100000) :
    Calls Tryz.prog 47 #[.pointer (some ⟨fb, 0, none⟩), .int .u64 (used : Int)] w fun e w' => e = .returned (.bool (decide (without (mustN l) used = 0) && (!tours || (toursM l row).2))) ∧ Below w.heap.size w w' := by
  have hlt : fb < w.heap.size := (Array.getElem?_eq_some_iff.1 hF).1
  unfold finC at hF
  obtain ⟨mu, hmu⟩ : ∃ x, x = mustN l := ⟨_, rfl⟩
  rw [← hmu] at hF ⊢
  clear hmu
  have CT := Lib.hid (fun p : BelowBy w => calls_bel (tours_any p.w cv rv l row (hC.below p.hb) (hR.below p.hb) hn hn' hlp))
  obtain ⟨Ac, cc, rfl, _⟩ := hC
  obtain ⟨Ar, cr, rfl, _, _⟩ := hR
  have c0 : w.cell? ⟨fb, 0, none⟩ = some (.slice Ac l.length cc) := cell_of hF 0
  have c3 : w.cell? ⟨fb, 3, none⟩ = some (.int .u64 (mu : Int)) := cell_of hF 3
  have c5 : w.cell? ⟨fb, 5, none⟩ = some (.slice Ar row.length cr) := cell_of hF 5
  have c6 : w.cell? ⟨fb, 6, none⟩ = some (.bool tours) := cell_of hF 6
  have hAN := bits_andNot mu used
  obtain ⟨x, hx⟩ : ∃ x, x = without mu used := ⟨_, rfl⟩
  rw [← hx] at hAN ⊢
  clear hF hx
  by_cases h0 : x = 0
  case neg =>
    have hb : ((x : Int) != 0) = true := by simp; omega
    have HF := Lib.hid (show (decide (x = 0) && (!tours || (toursM l row).2)) = false by rw [decide_eq_false h0]; rfl)
    go_enter Tryz.func47, Tryz.ntmps47
    go_wp2_with fail
    go_ret
    exact ⟨bool_ret HF.out.symm, Below.refl _ _⟩
  subst h0
  cases tours with
  | false =>
    go_enter Tryz.func47, Tryz.ntmps47
    go_wp2_with fail
    go_ret
    exact ⟨bool_ret (by simp), Below.refl _ _⟩
  | true =>
    have p0 : ∀ p : BelowBy w, World.cell? p.w ⟨fb, 0, none⟩ = some (.slice Ac l.length cc) := fun p => p.cell hlt c0
    have p5 : ∀ p : BelowBy w, World.cell? p.w ⟨fb, 5, none⟩ = some (.slice Ar row.length cr) := fun p => p.cell hlt c5
    obtain ⟨tn, htn⟩ : ∃ y, y = (toursM l row).1 := ⟨_, rfl⟩
    obtain ⟨ti, hti⟩ : ∃ y, y = (toursM l row).2 := ⟨_, rfl⟩
    rw [← htn, ← hti] at CT
    rw [← hti]
    clear htn hti
    go_enter Tryz.func47, Tryz.ntmps47
    go_wp2_with fail
    refine wp_region_bel (by kernel_rfl) (by kernel_rfl) ?_
    repeat (first | go_big_quiet_step ((go_at_call 63; exact CT.out _)) | quiet_step ((go_at_call 63; exact CT.out _)))
    refine wpQuiet_nil ?_
    intro _ hw'
    obtain ⟨⟨w5, hb5⟩, hw''⟩ := hw'
    subst hw''
    have B5 := Lib.hid hb5
    clear hb5 p0 p5
    go_wp2_with fail
    go_ret
    exact ⟨bool_ret (by simp), B5.out⟩
end Go.Proofs.YtdhgacionopghaaGreatDoor.Ln
