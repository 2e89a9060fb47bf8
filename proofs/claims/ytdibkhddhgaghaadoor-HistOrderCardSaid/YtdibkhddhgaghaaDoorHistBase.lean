/- hist: calls in a world; the small tests of a call. -/
import Derived.Test.YtdibkhddhgaghaaDoorProg
import Derived.WalkKit
import Derived.Lib.Hide
import Derived.Lib.Walk
import Derived.Below
import Derived.IntWalk
import Derived.LoopTactic
import Derived.Deep.LoopGhost
import Derived.WalkLawsBesides
import Derived.KernelRfl
import Derived.Tactics2
namespace Go.Proofs.YtdibkhddhgaghaaDoor.Hs
open Go.RowKit
set_option linter.unusedVariables false
set_option linter.unusedSimpArgs false
abbrev Pr := ByteArray × ByteArray
structure OpL where
  kind : Int
  key : ByteArray
  value : ByteArray
  old : ByteArray
structure Rep where
  err : Int := 0
  had : Bool := false
  did : Bool := false
  value : ByteArray := ⟨#[]⟩
  n : Int := 0
  pairs : List Pr := []
structure CallL where
  thread : Int
  index : Int
  op : OpL
  begin_ : Int
  end_ : Int
  done : Bool
  reply : Rep
/-- A slice of pairs lies in w. -/
def Prs (w : World) (v : Value) (l : List Pr) : Prop := ∃ (A : Option Addr) (cap : Nat), v = .slice A l.length cap ∧ l.length ≤ cap ∧
  ∀ j p, l[j]? = some p → ∃ b o, A = some ⟨b, o, none⟩ ∧ b < w.heap.size ∧ w.cell? ⟨b, o + j * 2, none⟩ = some (.string p.1) ∧ w.cell? ⟨b, o + j * 2 + 1, none⟩ = some (.string p.2)
theorem Prs.below {w w' : World} {v : Value} {l : List Pr} (h : Prs w v l) (hb : Below w.heap.size w w') : Prs w' v l := by
  obtain ⟨A, cap, rfl, hc, hp⟩ := h
  refine ⟨A, cap, rfl, hc, fun j p hj => ?_⟩
  obtain ⟨b, o, hA, hlt, h1, h2⟩ := hp j p hj
  exact ⟨b, o, hA, Nat.lt_of_lt_of_le hlt hb.size, (hb.cell (p := ⟨b, o + j * 2, none⟩) hlt).trans h1, (hb.cell (p := ⟨b, o + j * 2 + 1, none⟩) hlt).trans h2⟩
/-- A call, and the value that holds its reply's pairs. -/
abbrev CV := CallL × Value
def callC (c : CallL) (pv : Value) : Array Value :=
  #[.int .i64 c.thread, .int .i64 c.index, .int .i64 c.op.kind, .string c.op.key, .string c.op.value, .string c.op.old, .int .i64 c.begin_, .int .i64 c.end_, .bool c.done, .int .i64 c.reply.err, .bool c.reply.had, .bool c.reply.did, .string c.reply.value, .int .i64 c.reply.n, pv]
def encC (c : CallL) (pv : Value) : Value := .agg (callC c pv)
def encR (r : Rep) (pv : Value) : Value := .agg #[.int .i64 r.err, .bool r.had, .bool r.did, .string r.value, .int .i64 r.n, pv]
/-- A slice of calls lies in w. -/
def Cls (w : World) (v : Value) (l : List CV) : Prop := ∃ (A : Option Addr) (cap : Nat), v = .slice A l.length cap ∧ l.length ≤ cap ∧
  ∀ j q, l[j]? = some q → Prs w q.2 q.1.reply.pairs ∧ ∃ b z, A = some ⟨b, z, none⟩ ∧ b < w.heap.size ∧ ∀ k u, (callC q.1 q.2)[k]? = some u → w.cell? ⟨b, z + j * 15 + k, none⟩ = some u
theorem Cls.below {w w' : World} {v : Value} {l : List CV} (h : Cls w v l) (hb : Below w.heap.size w w') : Cls w' v l := by
  obtain ⟨A, cap, rfl, hcap, hc⟩ := h
  refine ⟨A, cap, rfl, hcap, fun j q hq => ?_⟩
  obtain ⟨h1, b, z, hz, hbl, hcell⟩ := hc j q hq
  exact ⟨h1.below hb, b, z, hz, Nat.lt_of_lt_of_le hbl hb.size, fun k u hk => (hb.cell (p := ⟨b, z + j * 15 + k, none⟩) hbl).trans (hcell k u hk)⟩
section
variable {P : Program} (w : World)
def m2 (x y : Int) : Int := if y > x then y else x
theorem m2_le (x y b : Int) : m2 x y ≤ b ↔ x ≤ b ∧ y ≤ b := by unfold m2; split <;> omega
theorem run_max_int4 (ts : Array TypeId) (t : TypeId) (k k' k'' k3 : IntKind) (x y z u : Int) : (Builtin.max_ ts t #[.int k x, .int k' y, .int k'' z, .int k3 u]).run P w = .ok (.int k (m2 (m2 (m2 x y) z) u)) w := by
  simp [Builtin.max_, Builtin.max2, m2]
theorem run_max_int3' (ts : Array TypeId) (t : TypeId) (k k' k'' : IntKind) (x y z : Int) : (Builtin.max_ ts t #[.int k x, .int k' y, .int k'' z]).run P w = .ok (.int k (m2 (m2 x y) z)) w := by
  simp [Builtin.max_, Builtin.max2, m2]
end
theorem cell_of' {w : World} {g : Nat} {cs : Array Value} {T : TypeId} {f : Nat × Nat} (h : w.heap[g]? = some (.cells cs T f)) (i : Nat) : w.cell? ⟨g, i, none⟩ = cs[i]? := by
  simp [World.cell?, h]
/-! ### plain -/
def bef (a b : CallL) : Bool := a.done && decide (a.end_ < b.begin_)
def wit (n most : Int) : Bool := decide (0 ≤ n) && decide (n ≤ most)
def zeroR (r : Rep) : Bool := decide (r.err = 0) && !r.had && !r.did && decide (r.value.size = 0) && decide (r.n = 0) && decide (r.pairs.length = 0)
def mt : Int := 1099511627776
/-- Texts of 255 bytes at most. -/
def textsOk (c : CallL) : Bool := decide (c.op.key.size ≤ 255) && decide (c.op.value.size ≤ 255) && decide (c.op.old.size ≤ 255) && decide (c.reply.value.size ≤ 255) && c.reply.pairs.all fun p => decide (p.1.size ≤ 255) && decide (p.2.size ≤ 255)
def alone (c : CallL) : Bool :=
  wit c.thread 63 && (decide (1 ≤ c.op.kind) && decide (c.op.kind ≤ 11)) && textsOk c && wit c.index mt && wit c.begin_ mt && wit c.end_ mt && wit c.reply.n mt && wit c.reply.err 99 && decide (c.reply.pairs.length ≤ 1000) &&
  (if c.done then decide (c.begin_ ≤ c.end_) else decide (c.end_ = 0) && zeroR c.reply)
/-! ### the walks -/
theorem within_any (n most : Int) (w : World) : Calls Tryd.prog 100 #[.int .i64 n, .int .i64 most] w fun e w' => e = .returned (.bool (wit n most)) ∧ w' = w := by
  unfold wit
  go_enter Tryd.func100, Tryd.ntmps100
  go_wp2_with fail
  all_goals
    go_ret
    exact ⟨by first | (simp [*]; done) | (simp [*]; omega) | (simp only [Ending.returned.injEq, Value.bool.injEq]; rw [Bool.eq_iff_iff]; simp; omega) | (simp [*]; rw [Bool.eq_iff_iff]; simp; omega), rfl⟩
set_option maxHeartbeats 2000000 in
theorem before_any (w : World) (a b : CallL) (pa pb : Value) :
    Calls Tryd.prog 22 #[encC a pa, encC b pb] w fun e w' => e = .returned (.bool (bef a b)) ∧ Below w.heap.size w w' := by
  obtain ⟨at_, ai, ao, ab, ae, ad, ar⟩ := a
  obtain ⟨bt, bi, bo, bb, be, bd, br⟩ := b
  unfold bef encC callC
  dsimp only
  cases ad with
  | false =>
    go_enter Tryd.func22, Tryd.ntmps22
    go_wp2
    go_ret
    exact ⟨rfl, ((Below.refl _ _).alloc (Nat.le_refl _) _).alloc (by simp) _⟩
  | true =>
    go_enter Tryd.func22, Tryd.ntmps22
    go_wp2
    go_ret
    exact ⟨rfl, ((Below.refl _ _).alloc (Nat.le_refl _) _).alloc (by simp) _⟩
set_option maxHeartbeats 2000000 in
theorem before_ref (w : World) (a b : CallL) (pa pb : Value) :
    Calls Tryd.prog 23 #[encC a pa, encC b pb] w fun e w' => e = .returned (.bool (bef a b)) ∧ Below w.heap.size w w' := by
  obtain ⟨at_, ai, ao, ab, ae, ad, ar⟩ := a
  obtain ⟨bt, bi, bo, bb, be, bd, br⟩ := b
  unfold bef encC callC
  dsimp only
  cases ad with
  | false =>
    go_enter Tryd.func23, Tryd.ntmps23
    go_wp2
    go_ret
    exact ⟨rfl, ((Below.refl _ _).alloc (Nat.le_refl _) _).alloc (by simp) _⟩
  | true =>
    go_enter Tryd.func23, Tryd.ntmps23
    go_wp2
    go_ret
    exact ⟨rfl, ((Below.refl _ _).alloc (Nat.le_refl _) _).alloc (by simp) _⟩
set_option maxHeartbeats 2000000 in
theorem zero_any (w : World) (r : Rep) (cap : Nat) (A : Option Addr) :
    Calls Tryd.prog 101 #[encR r (.slice A r.pairs.length cap)] w fun e w' => e = .returned (.bool (zeroR r)) ∧ Below w.heap.size w w' := by
  obtain ⟨re, rh, rd, rv, rn, rp⟩ := r
  unfold zeroR encR
  dsimp only
  have hv : (rv.toList.isEmpty) = decide (rv.size = 0) := by
    rw [ByteArray.toList_eq]
    have := (show rv.data.toList.length = rv.size by simp)
    cases h : rv.data.toList with
    | nil => rw [h] at this; simp only [List.length_nil] at this; rw [← this]; simp
    | cons _ _ => rw [h] at this; simp only [List.length_cons] at this; rw [← this]; simp
  go_enter Tryd.func101, Tryd.ntmps101
  go_wp2_with fail
  all_goals
    go_ret
    exact ⟨by first | (simp [*]; done) | (simp_all; done) | (simp [*]; cases rp <;> simp <;> omega), (Below.refl _ _).alloc (Nat.le_refl _) _⟩
theorem far_ref (n : Int) (w : World) : Calls Tryd.prog 102 #[.int .i64 n] w fun e w' => e = .returned (.bool (!wit n mt)) ∧ w' = w := by
  unfold wit mt
  go_enter Tryd.func102, Tryd.ntmps102
  go_wp2_with fail
  all_goals
    go_ret
    exact ⟨by first | (simp [*]; done) | (simp [*]; omega) | (simp only [Ending.returned.injEq, Value.bool.injEq]; rw [Bool.eq_iff_iff]; simp; omega) | (simp [*]; rw [Bool.eq_iff_iff]; simp; omega), rfl⟩
theorem long_ref (s : ByteArray) (w : World) : Calls Tryd.prog 103 #[.string s] w fun e w' => e = .returned (.bool (!decide (s.size ≤ 255))) ∧ w' = w := by
  go_enter Tryd.func103, Tryd.ntmps103
  go_wp2_with fail
  all_goals
    go_ret
    exact ⟨by first | (simp [*]; done) | (simp [*]; omega) | (simp only [Ending.returned.injEq, Value.bool.injEq]; rw [Bool.eq_iff_iff]; simp; omega) | (simp [*]; rw [Bool.eq_iff_iff]; simp; omega), rfl⟩
theorem wit_k (k : Int) : wit (k - 1) 10 = (decide (1 ≤ k) && decide (k ≤ 11)) := by
  unfold wit
  rw [Bool.eq_iff_iff]
  simp
  omega
set_option maxRecDepth 100000 in
set_option maxHeartbeats 4000000 in
theorem alone_any (w : World) (c : CallL) (pv : Value) (hp : Prs w pv c.reply.pairs) (hn : c.reply.pairs.length ≤ 100000000) (hk : -9223372036854775808 ≤ c.op.kind) (hk2 : c.op.kind ≤ 9223372036854775807) :
    Calls Tryd.prog 62 #[encC c pv] w fun e w' => e = .returned (.bool (alone c)) ∧ Below w.heap.size w w' := by
  obtain ⟨ct, ci, ⟨ok, okey, oval, oold⟩, cb, ce, cd, ⟨re, rh, rd, rv, rn, rp⟩⟩ := c
  obtain ⟨A, cap, rfl, hcap, hpc⟩ := hp
  dsimp only at *
  unfold encC callC
  dsimp only
  have hm4 := @run_max_int4 Tryd.prog
  obtain ⟨okm, hok, hwk⟩ : ∃ m, IntKind.i64.wrap (ok - 1) = m ∧ wit m 10 = (decide (1 ≤ ok) && decide (ok ≤ 11)) := by
    by_cases h0 : ok = -9223372036854775808
    · subst h0; exact ⟨9223372036854775807, by decide, by decide⟩
    · exact ⟨ok - 1, IntWalk.i64_in _ (by omega), wit_k ok⟩
  have HWK := Lib.hid hwk
  clear hwk
  obtain ⟨B, hB⟩ : ∃ B, B = w.heap.size := ⟨_, rfl⟩
  go_enter Tryd.func62, Tryd.ntmps62
  go_wp2_with fail
  go_loopw [3, 27] (fun m i wr => ∃ (k : Nat) (mv : Int), k ≤ rp.length ∧ i = .int .i64 k ∧ m = .int .i64 mv ∧ (mv ≤ 255 ↔ (okey.size ≤ 255 ∧ oval.size ≤ 255 ∧ oold.size ≤ 255 ∧ rv.size ≤ 255 ∧ ∀ p ∈ rp.take k, p.1.size ≤ 255 ∧ p.2.size ≤ 255)) ∧ Below (w.heap.size + 1) (w.alloc (.cells #[.int .i64 ct, .int .i64 ci, .int .i64 ok, .string okey, .string oval, .string oold, .int .i64 cb, .int .i64 ce, .bool cd, .int .i64 re, .bool rh, .bool rd, .string rv, .int .i64 rn, .slice A rp.length cap] 50)) wr) (fun _ i _ => rp.length - (intOf i).toNat)
  case atStart => exact ⟨0, _, Nat.zero_le _, rfl, rfl, by rw [m2_le, m2_le, m2_le]; simp; omega, Below.refl _ _⟩
  case round =>
    obtain ⟨k, mv, hk, rfl, rfl, hm, hB1⟩ := hrel
    have HM := Lib.hid hm
    have HB1 := Lib.hid hB1
    clear hm hB1
    by_cases hlt : k < rp.length
    · obtain ⟨p, hp⟩ : ∃ p, rp[k]? = some p := ⟨_, List.getElem?_eq_getElem hlt⟩
      obtain ⟨b, o, rfl, hbl, hc1, hc2⟩ := hpc k p hp
      have hbB : Below w.heap.size w wr := ((Below.refl w.heap.size w).alloc (Nat.le_refl _) _).trans (HB1.out.mono (Nat.le_succ _))
      have d1 := (hbB.cell (p := ⟨b, o + k * 2, none⟩) hbl).trans hc1
      have d2 := (hbB.cell (p := ⟨b, o + k * 2 + 1, none⟩) hbl).trans hc2
      have HP := Lib.hid hp
      have hbr := World.block_lt_of_cell? wr _ d1
      dsimp only at hbr
      have HBB := Lib.hid hbB
      clear hp hc1 hc2 hbB
      go_wp2_with fail
      go_roundw
      case rel =>
        refine ⟨k + 1, _, by omega, by go_num, rfl, ?_, HB1.out.alloc (by simpa using HB1.out.size) _⟩
        rw [List.take_add_one, HP.out]
        simp only [Option.toList_some, List.mem_append, List.mem_singleton, or_imp, forall_and, forall_eq]
        have hmm := HM.out
        simp only [forall_and] at hmm
        first | rw [m2_le, m2_le] | skip
        constructor
        · intro h
          have h2 : mv ≤ 255 ∧ p.1.size ≤ 255 ∧ p.2.size ≤ 255 := by first | omega | (repeat' split at h) <;> omega
          have h3 := hmm.1 h2.1
          exact ⟨h3.1, h3.2.1, h3.2.2.1, h3.2.2.2.1, ⟨fun q hq => (h3.2.2.2.2.1 q hq), h2.2.1⟩, fun q hq => (h3.2.2.2.2.2 q hq), h2.2.2⟩
        · rintro ⟨h1, h2, h3, h4, ⟨h5, h6⟩, h7, h8⟩
          have hmv : mv ≤ 255 := hmm.2 ⟨h1, h2, h3, h4, h5, h7⟩
          first | omega | (repeat' split) <;> omega
      case measure => simp [intOf]; omega
    · have hke : k = rp.length := by omega
      have hall : rp.take k = rp := by rw [hke]; exact List.take_length
      have HMV := Lib.hid (show (mv ≤ 255 ↔ textsOk ⟨ct, ci, ⟨ok, okey, oval, oold⟩, cb, ce, cd, ⟨re, rh, rd, rv, rn, rp⟩⟩ = true) from by
        rw [HM.out, hall]
        unfold textsOk
        simp
        constructor
        · rintro ⟨h1, h2, h3, h4, h5⟩
          exact ⟨⟨⟨⟨h1, h2⟩, h3⟩, h4⟩, fun a b hab => h5 a b hab⟩
        · rintro ⟨⟨⟨⟨h1, h2⟩, h3⟩, h4⟩, h5⟩
          exact ⟨h1, h2, h3, h4, fun a b hab => h5 a b hab⟩)
      have hx := (HB1.out.block w.heap.size (by omega)).trans (heap_alloc_new w _)
      have hwl : w.heap.size < wr.heap.size := by have := HB1.out.size; simp at this; omega
      have HXX := Lib.hid hx
      have cf : ∀ (W : World), Below wr.heap.size wr W → ∀ i v, (callC ⟨ct, ci, ⟨ok, okey, oval, oold⟩, cb, ce, cd, ⟨re, rh, rd, rv, rn, rp⟩⟩ (.slice A rp.length cap))[i]? = some v → W.cell? ⟨w.heap.size, i, none⟩ = some v := fun W hW i v hv => by
        have h1 := (hW.block w.heap.size hwl).trans HXX.out
        exact (cell_of' h1 i).trans hv
      have s0 : wr.cell? ⟨w.heap.size, 0, none⟩ = some (.int .i64 ct) := cf wr (Below.refl _ _) 0 _ rfl
      have s1 : wr.cell? ⟨w.heap.size, 1, none⟩ = some (.int .i64 ci) := cf wr (Below.refl _ _) 1 _ rfl
      have s2 : wr.cell? ⟨w.heap.size, 2, none⟩ = some (.int .i64 ok) := cf wr (Below.refl _ _) 2 _ rfl
      have s6 : wr.cell? ⟨w.heap.size, 6, none⟩ = some (.int .i64 cb) := cf wr (Below.refl _ _) 6 _ rfl
      have s7 : wr.cell? ⟨w.heap.size, 7, none⟩ = some (.int .i64 ce) := cf wr (Below.refl _ _) 7 _ rfl
      have s8 : wr.cell? ⟨w.heap.size, 8, none⟩ = some (.bool cd) := cf wr (Below.refl _ _) 8 _ rfl
      have s9 : wr.cell? ⟨w.heap.size, 9, none⟩ = some (.int .i64 re) := cf wr (Below.refl _ _) 9 _ rfl
      have s10 : wr.cell? ⟨w.heap.size, 10, none⟩ = some (.bool rh) := cf wr (Below.refl _ _) 10 _ rfl
      have s11 : wr.cell? ⟨w.heap.size, 11, none⟩ = some (.bool rd) := cf wr (Below.refl _ _) 11 _ rfl
      have s12 : wr.cell? ⟨w.heap.size, 12, none⟩ = some (.string rv) := cf wr (Below.refl _ _) 12 _ rfl
      have s13 : wr.cell? ⟨w.heap.size, 13, none⟩ = some (.int .i64 rn) := cf wr (Below.refl _ _) 13 _ rfl
      have s14 : wr.cell? ⟨w.heap.size, 14, none⟩ = some (.slice A rp.length cap) := cf wr (Below.refl _ _) 14 _ rfl
      have b0 : decide (k < rp.length) = false := decide_eq_false hlt
      clear cf hx hall hke hlt
      have HZ := Lib.hid (fun W => zero_any W ⟨re, rh, rd, rv, rn, rp⟩ cap A)
      unfold encR at HZ
      have HBW := Lib.hid (show Below w.heap.size w wr from ((Below.refl w.heap.size w).alloc (Nat.le_refl _) _).trans (HB1.out.mono (Nat.le_succ _)))
      go_wp2_with (first | (go_at_call 100; refine (within_any _ _ _).mono ?_; rintro e w' ⟨rfl, rfl⟩) | (go_at_call 101; refine (HZ.out _).mono ?_; rintro e w' ⟨rfl, hbz⟩))
      all_goals
        go_ret
        have hTT : textsOk ⟨ct, ci, ⟨ok, okey, oval, oold⟩, cb, ce, cd, ⟨re, rh, rd, rv, rn, rp⟩⟩ = decide (mv ≤ 255) := by rw [Bool.eq_iff_iff, ← HMV.out]; simp
        refine ⟨?_, by first | exact HBW.out | exact HBW.out.trans (hbz.mono HBW.out.size)⟩
        unfold alone mt
        dsimp only
        rw [hTT, ← HWK.out]
        first
          | (simp [*]; done)
          | (simp_all; done)
          | (simp [*]; omega)
          | (simp_all; omega)
end Go.Proofs.YtdibkhddhgaghaaDoor.Hs
