/- order: calls in a world; mapped, Before, step. -/
import Derived.Test.YtdhgacionopghaaGreatDoorSpecAllows
import Derived.Test.YtdhgacionopghaaGreatDoorSpecAllowsR
import Derived.Test.YtdhgacionopghaaGreatDoorOpenRows
namespace Go.Proofs.YtdhgacionopghaaGreatDoor.Od
open Go.RowKit Go.Shelf Dc DcM DcW DcI DcR DcL Sp
set_option linter.unusedVariables false
structure CallL where
  thread : Int
  index : Int
  op : OpL
  begin_ : Int
  end_ : Int
  done : Bool
  reply : Rep
/-- A call, and the value that holds its reply's pairs. -/
abbrev CV := CallL × Value
def callC (c : CallL) (pv : Value) : Array Value :=
  #[.int .i64 c.thread, .int .i64 c.index, .int .i64 c.op.kind, .string c.op.key, .string c.op.value, .string c.op.old, .int .i64 c.begin_, .int .i64 c.end_, .bool c.done, .int .i64 c.reply.err, .bool c.reply.had, .bool c.reply.did, .string c.reply.value, .int .i64 c.reply.n, pv]
/-- A slice of calls lies in w. -/
def Cls (w : World) (v : Value) (l : List CV) : Prop := ∃ (A : Option Addr) (cap : Nat), v = .slice A l.length cap ∧
  ∀ j q, l[j]? = some q → Prs w q.2 q.1.reply.pairs ∧ q.1.reply.pairs.length ≤ maxLen ∧ q.1.op.key.size ≤ maxLen ∧ q.1.op.value.size ≤ maxLen ∧ q.1.op.old.size ≤ maxLen ∧
    ∃ b z, A = some ⟨b, z, none⟩ ∧ b < w.heap.size ∧ ∀ k u, (callC q.1 q.2)[k]? = some u → w.cell? ⟨b, z + j * 15 + k, none⟩ = some u
theorem Cls.below {w w' : World} {v : Value} {l : List CV} (h : Cls w v l) (hb : Below w.heap.size w w') : Cls w' v l := by
  obtain ⟨A, cap, rfl, hc⟩ := h
  refine ⟨A, cap, rfl, fun j q hq => ?_⟩
  obtain ⟨h1, h2, h3, h4, h5, b, z, hz, hbl, hcell⟩ := hc j q hq
  exact ⟨h1.below hb, h2, h3, h4, h5, b, z, hz, Nat.lt_of_lt_of_le hbl hb.size, fun k u hk => (hb.cell (p := ⟨b, z + j * 15 + k, none⟩) hbl).trans (hcell k u hk)⟩
/-- A slice of ints lies in w. -/
def Its (w : World) (v : Value) (l : List Int) : Prop := ∃ (A : Option Addr) (cap : Nat), v = .slice A l.length cap ∧ l.length ≤ cap ∧
  ∀ j (x : Int), l[j]? = some x → ∃ b z, A = some ⟨b, z, none⟩ ∧ b < w.heap.size ∧ w.cell? ⟨b, z + j, none⟩ = some (.int .i64 x)
theorem Its.below {w w' : World} {v : Value} {l : List Int} (h : Its w v l) (hb : Below w.heap.size w w') : Its w' v l := by
  obtain ⟨A, cap, rfl, hcap, hc⟩ := h
  refine ⟨A, cap, rfl, hcap, fun j x hx => ?_⟩
  obtain ⟨b, z, hz, hbl, hcell⟩ := hc j x hx
  exact ⟨b, z, hz, Nat.lt_of_lt_of_le hbl hb.size, (hb.cell (p := ⟨b, z + j, none⟩) hbl).trans hcell⟩

/-! ### plain -/
def mappedB (l : List CV) (at_ : Int) : Bool := decide (0 ≤ at_) && (match l[at_.toNat]? with | some q => decide (1 ≤ q.1.op.kind) && decide (q.1.op.kind ≤ 9) | none => false)
def beforeB (a b : CallL) : Bool := a.done && decide (a.end_ < b.begin_)
def stepM (m : List Pr) (c : CallL) : List Pr := if c.done && decide (c.reply.err = 10) then m else doM m c.op

/-! ### the walks -/
set_option maxHeartbeats 4000000 in
theorem mapped_any (w : World) (v : Value) (l : List CV) (at_ : Int) (h : Cls w v l) (hn : l.length < 1000000) :
    Calls Tryz.prog 43 #[v, .int .i64 at_] w fun e w' => e = .returned (.bool (mappedB l at_)) ∧ w' = w := by
  obtain ⟨A, cap, rfl, hc⟩ := h
  by_cases h0 : 0 ≤ at_
  · obtain ⟨n, rfl⟩ : ∃ n : Nat, at_ = n := ⟨at_.toNat, by omega⟩
    by_cases hl : n < l.length
    · obtain ⟨q, hq⟩ : ∃ q, l[n]? = some q := ⟨_, List.getElem?_eq_getElem hl⟩
      obtain ⟨_, _, _, _, _, b, z, rfl, hbl, hcell⟩ := hc n q hq
      have k2 : w.cell? ⟨b, z + n * 15 + 2, none⟩ = some (.int .i64 q.1.op.kind) := hcell 2 _ rfl
      have HM := Lib.hid (show mappedB l (n : Int) = (decide (1 ≤ q.1.op.kind) && decide (q.1.op.kind ≤ 9)) by unfold mappedB; rw [decide_eq_true h0, Int.toNat_natCast, hq]; rfl)
      clear hc hcell hq
      rw [HM.out]
      go_enter Tryz.func43, Tryz.ntmps43
      go_wp2
      all_goals go_ret
      all_goals refine ⟨bool_ret ?_, rfl⟩
      all_goals (rw [Bool.eq_iff_iff]; simp only [Bool.and_eq_true, decide_eq_true_eq, false_iff, Bool.false_eq_true]; omega)
    · have HM := Lib.hid (show mappedB l (n : Int) = false by unfold mappedB; rw [Int.toNat_natCast, List.getElem?_eq_none (by omega)]; simp)
      clear hc
      rw [HM.out]
      go_enter Tryz.func43, Tryz.ntmps43
      go_wp2
      go_ret
      exact ⟨rfl, rfl⟩
  · have HM := Lib.hid (show mappedB l at_ = false by unfold mappedB; rw [decide_eq_false h0]; rfl)
    clear hc
    rw [HM.out]
    go_enter Tryz.func43, Tryz.ntmps43
    go_wp2
    go_ret
    exact ⟨rfl, rfl⟩
set_option maxHeartbeats 4000000 in
theorem mapped_ref (w : World) (v : Value) (l : List CV) (at_ : Int) (h : Cls w v l) (hn : l.length < 1000000) :
    Calls Tryz.prog 39 #[v, .int .i64 at_] w fun e w' => e = .returned (.bool (mappedB l at_)) ∧ w' = w := by
  obtain ⟨A, cap, rfl, hc⟩ := h
  by_cases h0 : 0 ≤ at_
  · obtain ⟨n, rfl⟩ : ∃ n : Nat, at_ = n := ⟨at_.toNat, by omega⟩
    by_cases hl : n < l.length
    · obtain ⟨q, hq⟩ : ∃ q, l[n]? = some q := ⟨_, List.getElem?_eq_getElem hl⟩
      obtain ⟨_, _, _, _, _, b, z, rfl, hbl, hcell⟩ := hc n q hq
      have k2 : w.cell? ⟨b, z + n * 15 + 2, none⟩ = some (.int .i64 q.1.op.kind) := hcell 2 _ rfl
      have HM := Lib.hid (show mappedB l (n : Int) = (decide (1 ≤ q.1.op.kind) && decide (q.1.op.kind ≤ 9)) by unfold mappedB; rw [decide_eq_true h0, Int.toNat_natCast, hq]; rfl)
      clear hc hcell hq
      rw [HM.out]
      go_enter Tryz.func39, Tryz.ntmps39
      go_wp2
      all_goals go_ret
      all_goals refine ⟨bool_ret ?_, rfl⟩
      all_goals (rw [Bool.eq_iff_iff]; simp only [Bool.and_eq_true, decide_eq_true_eq, false_iff, Bool.false_eq_true]; omega)
    · have HM := Lib.hid (show mappedB l (n : Int) = false by unfold mappedB; rw [Int.toNat_natCast, List.getElem?_eq_none (by omega)]; simp)
      clear hc
      rw [HM.out]
      go_enter Tryz.func39, Tryz.ntmps39
      go_wp2
      go_ret
      exact ⟨rfl, rfl⟩
  · have HM := Lib.hid (show mappedB l at_ = false by unfold mappedB; rw [decide_eq_false h0]; rfl)
    clear hc
    rw [HM.out]
    go_enter Tryz.func39, Tryz.ntmps39
    go_wp2
    go_ret
    exact ⟨rfl, rfl⟩

set_option maxHeartbeats 8000000 in
theorem before_any (w : World) (a b : CallL) (pa pb : Value) :
    Calls Tryz.prog 21 #[.agg #[.int .i64 a.thread, .int .i64 a.index, .int .i64 a.op.kind, .string a.op.key, .string a.op.value, .string a.op.old, .int .i64 a.begin_, .int .i64 a.end_, .bool a.done, .int .i64 a.reply.err, .bool a.reply.had, .bool a.reply.did, .string a.reply.value, .int .i64 a.reply.n, pa], .agg #[.int .i64 b.thread, .int .i64 b.index, .int .i64 b.op.kind, .string b.op.key, .string b.op.value, .string b.op.old, .int .i64 b.begin_, .int .i64 b.end_, .bool b.done, .int .i64 b.reply.err, .bool b.reply.had, .bool b.reply.did, .string b.reply.value, .int .i64 b.reply.n, pb]] w fun e w' => e = .returned (.bool (beforeB a b)) ∧ Below w.heap.size w w' := by
  obtain ⟨at_, ai, ao, ab, ae, ad, ar⟩ := a
  obtain ⟨bt, bi, bo, bb, be, bd, br⟩ := b
  unfold beforeB
  dsimp only
  cases ad with
  | false =>
    go_enter Tryz.func21, Tryz.ntmps21
    go_wp2
    go_ret
    exact ⟨rfl, ((Below.refl _ _).alloc (Nat.le_refl _) _).alloc (by simp) _⟩
  | true =>
    go_enter Tryz.func21, Tryz.ntmps21
    go_wp2
    go_ret
    exact ⟨rfl, ((Below.refl _ _).alloc (Nat.le_refl _) _).alloc (by simp) _⟩
set_option maxHeartbeats 8000000 in
theorem before_ref (w : World) (a b : CallL) (pa pb : Value) :
    Calls Tryz.prog 23 #[.agg #[.int .i64 a.thread, .int .i64 a.index, .int .i64 a.op.kind, .string a.op.key, .string a.op.value, .string a.op.old, .int .i64 a.begin_, .int .i64 a.end_, .bool a.done, .int .i64 a.reply.err, .bool a.reply.had, .bool a.reply.did, .string a.reply.value, .int .i64 a.reply.n, pa], .agg #[.int .i64 b.thread, .int .i64 b.index, .int .i64 b.op.kind, .string b.op.key, .string b.op.value, .string b.op.old, .int .i64 b.begin_, .int .i64 b.end_, .bool b.done, .int .i64 b.reply.err, .bool b.reply.had, .bool b.reply.did, .string b.reply.value, .int .i64 b.reply.n, pb]] w fun e w' => e = .returned (.bool (beforeB a b)) ∧ Below w.heap.size w w' := by
  obtain ⟨at_, ai, ao, ab, ae, ad, ar⟩ := a
  obtain ⟨bt, bi, bo, bb, be, bd, br⟩ := b
  unfold beforeB
  dsimp only
  cases ad with
  | false =>
    go_enter Tryz.func23, Tryz.ntmps23
    go_wp2
    go_ret
    exact ⟨rfl, ((Below.refl _ _).alloc (Nat.le_refl _) _).alloc (by simp) _⟩
  | true =>
    go_enter Tryz.func23, Tryz.ntmps23
    go_wp2
    go_ret
    exact ⟨rfl, ((Below.refl _ _).alloc (Nat.le_refl _) _).alloc (by simp) _⟩

set_option maxRecDepth 100000 in
set_option maxHeartbeats 8000000 in
theorem step_any (w : World) (v : Value) (m : List Pr) (c : CallL) (pv : Value) (hP : Prs w v m) (hs : Sorted m) (hl : m.length < 99999) (hz : c.op.key.size ≤ maxLen ∧ c.op.value.size ≤ maxLen) :
    Calls Tryz.prog 31 #[v, .agg #[.int .i64 c.thread, .int .i64 c.index, .int .i64 c.op.kind, .string c.op.key, .string c.op.value, .string c.op.old, .int .i64 c.begin_, .int .i64 c.end_, .bool c.done, .int .i64 c.reply.err, .bool c.reply.had, .bool c.reply.did, .string c.reply.value, .int .i64 c.reply.n, pv]] w fun e w' => ∃ v', e = .returned v' ∧ Prs w' v' (stepM m c) ∧ Below w.heap.size w w' := by
  obtain ⟨ct, ci, ⟨ok, okey, oval, oold⟩, cb, ce, cd, ⟨re, rh, rd, rv, rn, rp⟩⟩ := c
  dsimp only at hz ⊢
  obtain ⟨W1, hW1⟩ : ∃ W, W = w.alloc (.cells #[.int .i64 ct, .int .i64 ci, .int .i64 ok, .string okey, .string oval, .string oold, .int .i64 cb, .int .i64 ce, .bool cd, .int .i64 re, .bool rh, .bool rd, .string rv, .int .i64 rn, pv] 44) := ⟨_, rfl⟩
  have hb1 : Below w.heap.size w W1 := by rw [hW1]; exact (Below.refl _ _).alloc (Nat.le_refl _) _
  have HP := Lib.hid hP
  have HS := Lib.hid hs
  have HZ := Lib.hid hz
  have HW := Lib.hid hW1
  have B1 := Lib.hid hb1
  clear hP hs hz hW1 hb1
  cases cd with
  | false =>
    have HD := Lib.hid (show stepM m ⟨ct, ci, ⟨ok, okey, oval, oold⟩, cb, ce, false, ⟨re, rh, rd, rv, rn, rp⟩⟩ = doM m ⟨ok, okey, oval, oold⟩ by unfold stepM; simp [])
    rw [HD.out]
    go_enter Tryz.func31, Tryz.ntmps31
    go_wp2_with fail
    rw [← HW.out]
    refine (do_spec W1 v m (HP.out.below B1.out) HS.out hl ok okey oval oold HZ.out).mono ?_
    obtain ⟨r, hr⟩ : ∃ r, r = doR m ⟨ok, okey, oval, oold⟩ := ⟨_, rfl⟩
    rw [← hr]
    clear hr
    unfold repC
    rintro e w2 ⟨v2, p2, rfl, hn2, hq2, hb2⟩
    obtain ⟨A2, c2, e2, _⟩ := hq2
    subst e2
    have N2 := Lib.hid hn2
    have B2 := Lib.hid (B1.out.trans (hb2.mono B1.out.size))
    clear hn2 hb2
    dsimp only
    go_wp2_with fail
    go_ret
    exact ⟨_, rfl, N2.out.below ((Below.refl _ _).alloc (Nat.le_refl _) _), B2.out.alloc B2.out.size _⟩
  | true =>
    by_cases h10 : re = 10
    · subst h10
      have HD := Lib.hid (show stepM m ⟨ct, ci, ⟨ok, okey, oval, oold⟩, cb, ce, true, ⟨10, rh, rd, rv, rn, rp⟩⟩ = m by unfold stepM; simp)
      rw [HD.out]
      go_enter Tryz.func31, Tryz.ntmps31
      go_wp2_with fail
      rw [← HW.out]
      go_ret
      exact ⟨_, rfl, HP.out.below B1.out, B1.out⟩
    · have hb10 : (re == 10) = false := by rw [beq_eq_false_iff_ne]; exact h10
      have HD := Lib.hid (show stepM m ⟨ct, ci, ⟨ok, okey, oval, oold⟩, cb, ce, true, ⟨re, rh, rd, rv, rn, rp⟩⟩ = doM m ⟨ok, okey, oval, oold⟩ by unfold stepM; simp [h10])
      rw [HD.out]
      go_enter Tryz.func31, Tryz.ntmps31
      go_wp2_with fail
      rw [← HW.out]
      refine (do_spec W1 v m (HP.out.below B1.out) HS.out hl ok okey oval oold HZ.out).mono ?_
      obtain ⟨r, hr⟩ : ∃ r, r = doR m ⟨ok, okey, oval, oold⟩ := ⟨_, rfl⟩
      rw [← hr]
      clear hr
      unfold repC
      rintro e w2 ⟨v2, p2, rfl, hn2, hq2, hb2⟩
      obtain ⟨A2, c2, e2, _⟩ := hq2
      subst e2
      have N2 := Lib.hid hn2
      have B2 := Lib.hid (B1.out.trans (hb2.mono B1.out.size))
      clear hn2 hb2
      dsimp only
      go_wp2_with fail
      go_ret
      exact ⟨_, rfl, N2.out.below ((Below.refl _ _).alloc (Nat.le_refl _) _), B2.out.alloc B2.out.size _⟩

end Go.Proofs.YtdhgacionopghaaGreatDoor.Od
