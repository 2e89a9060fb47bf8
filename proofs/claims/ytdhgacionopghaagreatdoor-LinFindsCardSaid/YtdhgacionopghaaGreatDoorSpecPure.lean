/- spec: what a finite map answers, in plain Lean. -/
import Derived.Test.YtdhgacionopghaaGreatDoorDictRef
namespace Go.Proofs.YtdhgacionopghaaGreatDoor.Sp
open Dc
set_option linter.unusedVariables false
structure OpL where
  kind : Int
  key : ByteArray
  value : ByteArray
  old : ByteArray
structure Rep where
  err : Int := 0
  had : Bool := false
  did : Bool := false
  value : ByteArray := ⟨#[]⟩
  n : Int := 0
  pairs : List Pr := []
def long (o : OpL) : Bool := (decide (1 ≤ o.kind) && decide (o.kind ≤ 7) && decide (16 < o.key.size)) || (decide (2 ≤ o.kind) && decide (o.kind ≤ 5) && decide (24 < o.value.size))
/-- Is an operation of a key done? -/
def hit (o : OpL) (g : ByteArray × Bool) : Bool :=
  decide (o.kind = 2) || (decide (o.kind = 3) && !g.2) || ((decide (o.kind = 4) || decide (o.kind = 6)) && g.2) || ((decide (o.kind = 5) || decide (o.kind = 7)) && g.2 && decide (g.1 = o.old))
def keyedM (m : List Pr) (o : OpL) : List Pr := if hit o (dget m o.key) then (if 6 ≤ o.kind then del m o.key else put m o.key o.value) else m
def keyedR (m : List Pr) (o : OpL) : Rep := { had := (dget m o.key).2, value := (dget m o.key).1, did := hit o (dget m o.key) }
def doM (m : List Pr) (o : OpL) : List Pr :=
  if o.kind < 1 ∨ 11 < o.kind then m else if long o = true then m else if o.kind = 8 then m else if o.kind = 9 then [] else if o.kind = 10 then m else if o.kind = 11 then m else keyedM m o
def doR (m : List Pr) (o : OpL) : Rep :=
  if o.kind < 1 ∨ 11 < o.kind then { err := 2 } else if long o = true then { err := 11 } else if o.kind = 8 then { n := m.length } else if o.kind = 9 then { did := true } else if o.kind = 10 then { pairs := m } else if o.kind = 11 then {} else keyedR m o
def sameR (a b : Rep) : Bool := decide (a.err = b.err) && decide (a.had = b.had) && decide (a.did = b.did) && decide (a.value = b.value) && decide (a.n = b.n) && decide (a.pairs = b.pairs)
def allowsM (m : List Pr) (o : OpL) (r : Rep) : List Pr := if sameR (doR m o) r = true then doM m o else m
def allowsB (m : List Pr) (o : OpL) (r : Rep) : Bool := sameR (doR m o) r || (sameR r { err := 10 } && decide ((doR m o).err = 0) && !decide (o.kind = 11))
theorem sorted_doM {m : List Pr} {o : OpL} (h : Sorted m) : Sorted (doM m o) := by
  unfold doM keyedM
  repeat' split
  all_goals first | exact h | exact List.Pairwise.nil | exact sorted_del _ h | exact sorted_put _ _ h
theorem length_doM {m : List Pr} {o : OpL} (h : Sorted m) : (doM m o).length ≤ m.length + 1 := by
  have h1 := length_put o.key o.value h
  have h2 := length_del o.key h
  unfold doM keyedM
  repeat' split
  all_goals first | omega | simp
theorem put_nil_take {m : List Pr} (h : Sorted m) {k : Nat} {p : Pr} (hp : m[k]? = some p) : put (m.take k) p.1 p.2 = m.take (k + 1) := by
  have hk := (List.getElem?_eq_some_iff.1 hp).1
  have e : m.take (k + 1) = m.take k ++ [p] := DcR.take_hit hp
  have hs : Sorted (m.take (k + 1)) := h.sublist (List.take_sublist _ _)
  rw [e] at hs ⊢
  have hlt : ∀ q ∈ m.take k, lt q.1 p.1 = true := fun q hq => (List.pairwise_append.1 hs).2.2 q hq p (by simp)
  unfold put
  have h1 : below p.1 (m.take k) = m.take k := List.filter_eq_self.2 fun q hq => by simpa using hlt q hq
  have h2 : above p.1 (m.take k) = [] := List.filter_eq_nil_iff.2 fun q hq => by simp [lt_asymm (hlt q hq)]
  rw [h1, h2]
end Go.Proofs.YtdhgacionopghaaGreatDoor.Sp
