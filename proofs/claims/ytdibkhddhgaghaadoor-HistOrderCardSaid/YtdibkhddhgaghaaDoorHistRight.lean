/- hist.Right: the machine's walk (a map from a thread to the place of its last call). -/
import Derived.Test.YtdibkhddhgaghaaDoorHistBase
import Derived.Maps.OwnSet
import Derived.BigQuiet
import Derived.Test.YtdibkhddhgaghaaDoorBelowQuiet
import Derived.Maps.OwnOps
namespace Go.Proofs.YtdibkhddhgaghaaDoor.Hs
open Go.RowKit Bq
set_option linter.unusedVariables false
set_option linter.unusedSimpArgs false
/-- The last call of a thread among the first k. -/
def lastOf (l : List CV) : Nat → Int → Option Nat
  | 0, _ => none
  | k + 1, t => match l[k]? with
    | some q => if q.1.thread = t then some k else lastOf l k t
    | none => lastOf l k t
theorem lastOf_lt {l : List CV} {t : Int} {j : Nat} : ∀ {k : Nat}, lastOf l k t = some j → j < k ∧ ∃ q, l[j]? = some q ∧ q.1.thread = t
  | 0, h => by simp [lastOf] at h
  | k + 1, h => by
    unfold lastOf at h
    split at h
    · rename_i q hq
      by_cases e : q.1.thread = t
      · rw [if_pos e] at h
        injection h with h
        subst h
        exact ⟨Nat.lt_succ_self _, q, hq, e⟩
      · rw [if_neg e] at h
        have := lastOf_lt h
        exact ⟨by omega, this.2⟩
    · have := lastOf_lt h
      exact ⟨by omega, this.2⟩
/-- The call ahead began earlier. -/
def prevOk (l : List CV) (i : Nat) (b : Int) : Bool := match i with | 0 => true | j + 1 => match l[j]? with | some p => decide (p.1.begin_ < b) | none => true
/-- A call may stand at its place, after the ones before it. -/
def goes (l : List CV) (i : Nat) (c : CallL) : Bool :=
  alone c && prevOk l i c.begin_ &&
  (match lastOf l i c.thread with
    | none => decide (c.index = 0)
    | some j => match l[j]? with | some p => decide (c.index = p.1.index + 1) && bef p.1 c | none => true)
def goesUp (l : List CV) : Nat → Bool
  | 0 => true
  | k + 1 => goesUp l k && match l[k]? with | some q => goes l k q.1 | none => true
theorem goesUp_at {l : List CV} {j : Nat} {q : CV} (hq : l[j]? = some q) : ∀ {k : Nat}, goesUp l k = true → j < k → goes l j q.1 = true
  | 0, _, h => absurd h (by omega)
  | k + 1, h, hj => by
    unfold goesUp at h
    simp only [Bool.and_eq_true] at h
    by_cases e : j = k
    · subst e
      rw [hq] at h
      exact h.2
    · exact goesUp_at hq h.1 (by omega)
theorem goesUp_no {l : List CV} {j : Nat} {q : CV} (hq : l[j]? = some q) (hn : goes l j q.1 = false) {k : Nat} (hj : j < k) : goesUp l k = false := by
  cases h : goesUp l k with
  | false => rfl
  | true => rw [goesUp_at hq h hj] at hn; cases hn
def rightM (l : List CV) : Bool := goesUp l l.length
/-! ### the map -/
abbrev OwnI (w : World) (mb n : Nat) (D : DataW Unit) : Prop := w.ownsMap Tryd.prog 3 (plainElem Tryd.prog 3) mb n D
theorem keyedI : Go.Maps.Keyed Tryd.prog 3 := Go.Maps.int_keyed Tryd.underlying3
theorem zeroI (w : World) : (zeroValue 3).run Tryd.prog w = .ok (.int .i64 0) w := by kernel_rfl
theorem keyI {g : Int} (h0 : -9223372036854775808 ≤ g) (h1 : g ≤ 9223372036854775807) : keyOf Tryd.prog 3 (.int .i64 g) = some (.int .i64 g) := Go.Maps.keyOf_int_mk Tryd.underlying3 (by
  simp [Lit.wf, IntKind.min, IntKind.max, IntKind.signed, IntKind.bits]
  omega)
theorem own_bel {w w' : World} {mb n : Nat} {D : DataW Unit} (h : OwnI w mb n D) (hb : Below w.heap.size w w') : OwnI w' mb n D := by
  obtain ⟨es, clock, hbk, r⟩ := h
  exact ⟨es, clock, (hb.block mb (Array.getElem?_eq_some_iff.1 hbk).1).trans hbk, r⟩
/-- The map says where each thread's last call stands. -/
def Says (l : List CV) (k : Nat) (D : DataW Unit) : Prop :=
  ∀ t : Int, Maps.has D (.int .i64 t) = (lastOf l k t).isSome ∧ ∀ j, lastOf l k t = some j → D.atKey (.int .i64 t) (.lit (.int .i64 0)) = .lit (.int .i64 j)
theorem says_nil (l : List CV) : Says l 0 (.map []) := fun t => ⟨rfl, fun j hj => by simp [lastOf] at hj⟩
theorem says_put {l : List CV} {k mb n : Nat} {D : DataW Unit} {w : World} {q : CV} (hm : OwnI w mb n D) (h : Says l k D) (hq : l[k]? = some q) : Says l (k + 1) (D.put (.int .i64 q.1.thread) (.lit (.int .i64 k))) := by
  have hIM : Maps.IsMap D := by obtain ⟨es, ck, _, _, _, rfl⟩ := hm; exact ⟨_, rfl⟩
  intro t
  unfold lastOf
  simp only [hq]
  by_cases e : q.1.thread = t
  · subst e
    rw [if_pos rfl]
    refine ⟨Maps.has_put_same hIM (by trivial) _, fun j hj => ?_⟩
    injection hj with hj
    subst hj
    exact Maps.atKey_put_same hIM (by trivial) _ _
  · rw [if_neg e, Maps.has_put_other (by intro e'; injection e' with _ e'; exact e e'.symm), Maps.atKey_put_other (by intro e'; injection e' with _ e'; exact e e'.symm)]
    exact h t
/-- At a round's head. -/
def RtL (l : List CV) (w W : World) (mb k : Nat) : Prop := ∃ D, OwnI W mb k D ∧ Says l k D ∧ goesUp l k = true ∧ w.heap.size ≤ mb ∧ Below w.heap.size w W
theorem rt_step {l : List CV} {w W w5 : World} {mb k : Nat} {D : DataW Unit} {q : CV} (hm : OwnI W mb k D) (hS : Says l k D) (hq : l[k]? = some q) (hg : goesUp l k = true) (hgo : goes l k q.1 = true) (hlo : w.heap.size ≤ mb)
    (hB : Below w.heap.size w W) (hown : OwnI w5 mb (k + 1) (D.put (.int .i64 q.1.thread) (.lit (.int .i64 k)))) (hgrow : W.grownBy w5 (some mb)) : RtL l w w5 mb (k + 1) :=
  ⟨_, hown, says_put hm hS hq, by unfold goesUp; rw [hg, hq]; simpa using hgo, hlo, hB.grown hgrow hB.size (fun j hj => by injection hj with hj; omega)⟩
theorem mb_lt {w W : World} {mb n : Nat} {D : DataW Unit} (h : OwnI W mb n D) : mb < W.heap.size := h.lt
theorem goes_none {l : List CV} {k : Nat} {c : CallL} (ha : alone c = true) (hn : lastOf l k c.thread = none) (hb : prevOk l k c.begin_ = true) : goes l k c = decide (c.index = 0) := by
  unfold goes; rw [ha, hb, hn]; rfl
theorem goes_some {l : List CV} {k j : Nat} {c : CallL} {p : CV} (ha : alone c = true) (hn : lastOf l k c.thread = some j) (hp : l[j]? = some p) (hb : prevOk l k c.begin_ = true) : goes l k c = (decide (c.index = p.1.index + 1) && bef p.1 c) := by
  unfold goes; rw [ha, hb, hn]; dsimp only; rw [hp]; rfl
theorem goes_late {l : List CV} {k : Nat} {c : CallL} {p : CV} (hp : l[k]? = some p) (hb : c.begin_ ≤ p.1.begin_) : goes l (k + 1) c = false := by
  unfold goes prevOk; dsimp only; rw [hp]; simp; intro _ h; omega
theorem goes_in {l : List CV} {k : Nat} {c : CallL} {p : CV} (hp : l[k]? = some p) (hb : ¬ c.begin_ ≤ p.1.begin_) : prevOk l (k + 1) c.begin_ = true := by
  unfold prevOk; dsimp only; rw [hp]; simp; omega
theorem alone_index {c : CallL} (h : alone c = true) : 0 ≤ c.index ∧ c.index ≤ 1099511627776 := by
  unfold alone wit mt at h
  simp only [Bool.and_eq_true, decide_eq_true_eq] at h
  omega
theorem goes_alone {l : List CV} {k : Nat} {c : CallL} (h : goes l k c = true) : alone c = true := by
  unfold goes at h; simp only [Bool.and_eq_true] at h; exact h.1.1
set_option maxRecDepth 100000 in
set_option maxHeartbeats 8000000 in
theorem right_any (w : World) (l : List CV) (v : Value) (hl : l.length ≤ 100000000) (h : Cls w v l) (hk : ∀ q ∈ l, q.1.reply.pairs.length ≤ 100000000 ∧ (-9223372036854775808 ≤ q.1.op.kind ∧ q.1.op.kind ≤ 9223372036854775807) ∧ (-9223372036854775808 ≤ q.1.thread ∧ q.1.thread ≤ 9223372036854775807)) :
    Calls Tryd.prog 21 #[v] w fun e w' => e = .returned (.bool (rightM l)) ∧ Below w.heap.size w w' := by
  have hmm := @run_makeMap Tryd.prog
  have HK := Lib.hid hk
  have HCL := Lib.hid h
  obtain ⟨A, cap, rfl, hcap, hc0⟩ := h
  clear hk
  have L0 : RtL l w (w.alloc (.map #[] 0)) w.heap.size 0 := ⟨_, World.ownsMap_made (H := Unit) w Tryd.prog 3 (plainElem Tryd.prog 3), says_nil l, rfl, Nat.le_refl _, (Below.refl _ _).alloc (Nat.le_refl _) _⟩
  have HL0 := Lib.hid L0
  clear L0
  go_enter Tryd.func21, Tryd.ntmps21
  go_wp2_with fail
  go_loopw [11] (fun i wr => ∃ k : Nat, k ≤ l.length ∧ i = .int .i64 k ∧ RtL l w wr w.heap.size k) (fun i _ => l.length - (intOf i).toNat)
  case atStart => exact ⟨0, Nat.zero_le _, rfl, HL0.out⟩
  case round =>
    obtain ⟨k, hk, rfl, hR⟩ := hrel
    have HR := Lib.hid hR
    obtain ⟨D, hm, hsay, hgo, hlo, hB⟩ := hR
    have HM := Lib.hid hm
    have HSY := Lib.hid hsay
    have HB := Lib.hid hB
    clear hm hsay hB
    by_cases hlt : k < l.length
    · obtain ⟨q, hq⟩ : ∃ q, l[k]? = some q := ⟨_, List.getElem?_eq_getElem hlt⟩
      obtain ⟨hP, b, z, rfl, hbl, hcell⟩ := hc0 k q hq
      have HQ := Lib.hid hq
      have hlo' : b < wr.heap.size := Nat.lt_of_lt_of_le hbl HB.out.size
      have HCC := Lib.hid (show ∀ W, Below w.heap.size w W → ∀ i u, (callC q.1 q.2)[i]? = some u → W.cell? ⟨b, z + k * 15 + i, none⟩ = some u from fun W hW i u hu => (hW.cell (p := ⟨b, z + k * 15 + i, none⟩) hbl).trans (hcell i u hu))
      have HPP := Lib.hid hP
      obtain ⟨⟨ct, ci, ⟨ok, okey, oval, oold⟩, cb, ce, cd, ⟨re, rh, rd, rv, rn, rp⟩⟩, pv⟩ := q
      dsimp only at hP HPP
      obtain ⟨PA, pcap, rfl, _, _⟩ := hP
      have s0 : wr.cell? ⟨b, z + k * 15, none⟩ = some (.int .i64 ct) := HCC.out wr HB.out 0 _ rfl
      have s1 : wr.cell? ⟨b, z + k * 15 + 1, none⟩ = some (.int .i64 ci) := HCC.out wr HB.out 1 _ rfl
      have s2 : wr.cell? ⟨b, z + k * 15 + 2, none⟩ = some (.int .i64 ok) := HCC.out wr HB.out 2 _ rfl
      have s3 : wr.cell? ⟨b, z + k * 15 + 3, none⟩ = some (.string okey) := HCC.out wr HB.out 3 _ rfl
      have s4 : wr.cell? ⟨b, z + k * 15 + 4, none⟩ = some (.string oval) := HCC.out wr HB.out 4 _ rfl
      have s5 : wr.cell? ⟨b, z + k * 15 + 5, none⟩ = some (.string oold) := HCC.out wr HB.out 5 _ rfl
      have s6 : wr.cell? ⟨b, z + k * 15 + 6, none⟩ = some (.int .i64 cb) := HCC.out wr HB.out 6 _ rfl
      have s7 : wr.cell? ⟨b, z + k * 15 + 7, none⟩ = some (.int .i64 ce) := HCC.out wr HB.out 7 _ rfl
      have s8 : wr.cell? ⟨b, z + k * 15 + 8, none⟩ = some (.bool cd) := HCC.out wr HB.out 8 _ rfl
      have s9 : wr.cell? ⟨b, z + k * 15 + 9, none⟩ = some (.int .i64 re) := HCC.out wr HB.out 9 _ rfl
      have s10 : wr.cell? ⟨b, z + k * 15 + 10, none⟩ = some (.bool rh) := HCC.out wr HB.out 10 _ rfl
      have s11 : wr.cell? ⟨b, z + k * 15 + 11, none⟩ = some (.bool rd) := HCC.out wr HB.out 11 _ rfl
      have s12 : wr.cell? ⟨b, z + k * 15 + 12, none⟩ = some (.string rv) := HCC.out wr HB.out 12 _ rfl
      have s13 : wr.cell? ⟨b, z + k * 15 + 13, none⟩ = some (.int .i64 rn) := HCC.out wr HB.out 13 _ rfl
      have s14 : wr.cell? ⟨b, z + k * 15 + 14, none⟩ = some (.slice PA rp.length pcap) := HCC.out wr HB.out 14 _ rfl
      have hkq := HK.out _ (List.mem_of_getElem? hq)
      dsimp only at hkq
      have HKQ := Lib.hid hkq
      have HAL := Lib.hid (fun (W : World) (hW : Below w.heap.size w W) => alone_any W ⟨ct, ci, ⟨ok, okey, oval, oold⟩, cb, ce, cd, ⟨re, rh, rd, rv, rn, rp⟩⟩ (.slice PA rp.length pcap) (HPP.out.below hW) HKQ.out.1 HKQ.out.2.1.1 HKQ.out.2.1.2)
      unfold encC callC at HAL
      dsimp only at HAL
      have HC0 := Lib.hid hc0
      have HLT := Lib.hid (And.intro hbl (And.intro hlo' hlt))
      have HGO := Lib.hid hgo
      clear hcell hc0 hkq hq hgo hbl hlo'
      obtain ⟨ab, hab⟩ : ∃ ab, alone ⟨ct, ci, ⟨ok, okey, oval, oold⟩, cb, ce, cd, ⟨re, rh, rd, rv, rn, rp⟩⟩ = ab := ⟨_, rfl⟩
      rw [hab] at HAL
      have HAB := Lib.hid hab
      clear hab
      go_wp2_with fail
      clear s0 s1 s2 s3 s4 s5 s6 s7 s8 s9 s10 s11 s12 s13 s14
      obtain ⟨W0, hW0⟩ : ∃ W0, W0 = wr.alloc (.cells #[.int .i64 ct, .int .i64 ci, .int .i64 ok, .string okey, .string oval, .string oold, .int .i64 cb, .int .i64 ce, .bool cd, .int .i64 re, .bool rh, .bool rd, .string rv, .int .i64 rn, .slice PA rp.length pcap] 50) := ⟨_, rfl⟩
      rw [← hW0]
      have HW0 := Lib.hid (show wr.heap.size < W0.heap.size ∧ W0.heap[wr.heap.size]? = some (.cells #[.int .i64 ct, .int .i64 ci, .int .i64 ok, .string okey, .string oval, .string oold, .int .i64 cb, .int .i64 ce, .bool cd, .int .i64 re, .bool rh, .bool rd, .string rv, .int .i64 rn, .slice PA rp.length pcap] 50 (0, 0)) ∧ Below wr.heap.size wr W0 from by
        rw [hW0]
        exact ⟨by simp, heap_alloc_new wr _, (Below.refl _ _).alloc (Nat.le_refl _) _⟩)
      clear hW0
      have f0 : ∀ p : BelowBy W0, World.cell? p.w ⟨wr.heap.size, 0, none⟩ = some (.int .i64 ct) := fun p => p.cell HW0.out.1 (cell_of' HW0.out.2.1 0)
      have f1 : ∀ p : BelowBy W0, World.cell? p.w ⟨wr.heap.size, 1, none⟩ = some (.int .i64 ci) := fun p => p.cell HW0.out.1 (cell_of' HW0.out.2.1 1)
      have f2 : ∀ p : BelowBy W0, World.cell? p.w ⟨wr.heap.size, 2, none⟩ = some (.int .i64 ok) := fun p => p.cell HW0.out.1 (cell_of' HW0.out.2.1 2)
      have f3 : ∀ p : BelowBy W0, World.cell? p.w ⟨wr.heap.size, 3, none⟩ = some (.string okey) := fun p => p.cell HW0.out.1 (cell_of' HW0.out.2.1 3)
      have f4 : ∀ p : BelowBy W0, World.cell? p.w ⟨wr.heap.size, 4, none⟩ = some (.string oval) := fun p => p.cell HW0.out.1 (cell_of' HW0.out.2.1 4)
      have f5 : ∀ p : BelowBy W0, World.cell? p.w ⟨wr.heap.size, 5, none⟩ = some (.string oold) := fun p => p.cell HW0.out.1 (cell_of' HW0.out.2.1 5)
      have f6 : ∀ p : BelowBy W0, World.cell? p.w ⟨wr.heap.size, 6, none⟩ = some (.int .i64 cb) := fun p => p.cell HW0.out.1 (cell_of' HW0.out.2.1 6)
      have f7 : ∀ p : BelowBy W0, World.cell? p.w ⟨wr.heap.size, 7, none⟩ = some (.int .i64 ce) := fun p => p.cell HW0.out.1 (cell_of' HW0.out.2.1 7)
      have f8 : ∀ p : BelowBy W0, World.cell? p.w ⟨wr.heap.size, 8, none⟩ = some (.bool cd) := fun p => p.cell HW0.out.1 (cell_of' HW0.out.2.1 8)
      have f9 : ∀ p : BelowBy W0, World.cell? p.w ⟨wr.heap.size, 9, none⟩ = some (.int .i64 re) := fun p => p.cell HW0.out.1 (cell_of' HW0.out.2.1 9)
      have f10 : ∀ p : BelowBy W0, World.cell? p.w ⟨wr.heap.size, 10, none⟩ = some (.bool rh) := fun p => p.cell HW0.out.1 (cell_of' HW0.out.2.1 10)
      have f11 : ∀ p : BelowBy W0, World.cell? p.w ⟨wr.heap.size, 11, none⟩ = some (.bool rd) := fun p => p.cell HW0.out.1 (cell_of' HW0.out.2.1 11)
      have f12 : ∀ p : BelowBy W0, World.cell? p.w ⟨wr.heap.size, 12, none⟩ = some (.string rv) := fun p => p.cell HW0.out.1 (cell_of' HW0.out.2.1 12)
      have f13 : ∀ p : BelowBy W0, World.cell? p.w ⟨wr.heap.size, 13, none⟩ = some (.int .i64 rn) := fun p => p.cell HW0.out.1 (cell_of' HW0.out.2.1 13)
      have f14 : ∀ p : BelowBy W0, World.cell? p.w ⟨wr.heap.size, 14, none⟩ = some (.slice PA rp.length pcap) := fun p => p.cell HW0.out.1 (cell_of' HW0.out.2.1 14)
      have HB0 := Lib.hid (show Below w.heap.size w W0 from HB.out.trans (HW0.out.2.2.mono HB.out.size))
      have CA := Lib.hid (fun p : BelowBy W0 => calls_bel (p := p) (HAL.out p.w (HB0.out.trans (p.hb.mono HB0.out.size))))
      cases ab with
      | false =>
        as_aux_lemma =>
          refine wp_region_bel (by kernel_rfl) (by kernel_rfl) ?_
          repeat (first | go_big_quiet_step ((go_at_call 62; exact CA.out _)) | quiet_step ((go_at_call 62; exact CA.out _)))
          refine wpQuiet_nil ?_
          intro _ hw'
          obtain ⟨⟨w5, hb5⟩, hw''⟩ := hw'
          subst hw''
          have B5 := Lib.hid hb5
          clear hb5 f0 f1 f2 f3 f4 f5 f6 f7 f8 f9 f10 f11 f12 f13 f14
          go_wp2_with fail
          go_ret
          refine ⟨?_, HB0.out.trans (B5.out.mono HB0.out.size)⟩
          have : rightM l = false := goesUp_no HQ.out (by unfold goes; rw [HAB.out]; rfl) HLT.out.2.2
          rw [this]; rfl
      | true =>
        as_aux_lemma =>
          have F := Lib.hid (show ∀ i v, (#[.int .i64 ct, .int .i64 ci, .int .i64 ok, .string okey, .string oval, .string oold, .int .i64 cb, .int .i64 ce, .bool cd, .int .i64 re, .bool rh, .bool rd, .string rv, .int .i64 rn, .slice PA rp.length pcap] : Array Value)[i]? = some v → ∀ W, Below W0.heap.size W0 W → W.cell? ⟨wr.heap.size, i, none⟩ = some v from fun i v hv W hW => ((hW.cell (p := ⟨wr.heap.size, i, none⟩) HW0.out.1).trans (cell_of' HW0.out.2.1 i)).trans hv)
          cases k with
          | zero =>
            as_aux_lemma =>
              have HBG := Lib.hid (show prevOk l 0 cb = true from rfl)
              refine wp_region_bel (by kernel_rfl) (by kernel_rfl) ?_
              repeat (first | go_big_quiet_step ((go_at_call 62; exact CA.out _)) | quiet_step ((go_at_call 62; exact CA.out _)))
              refine wpQuiet_nil ?_
              intro w5 hw5
              obtain ⟨⟨w5', hb5⟩, hw5'⟩ := hw5
              dsimp only at hw5'
              subst hw5'
              have B5 := Lib.hid hb5
              have HM5 := Lib.hid (own_bel HM.out (HW0.out.2.2.trans (hb5.mono (Nat.le_of_lt HW0.out.1))))
              have HKY := Lib.hid (keyI HKQ.out.2.2.1 HKQ.out.2.2.2)
              have HB05 := Lib.hid (HB0.out.trans (hb5.mono HB0.out.size))
              have HB5 := Lib.hid hb5
              have e0 : w5.cell? ⟨wr.heap.size, 0, none⟩ = some (.int .i64 ct) := F.out 0 _ rfl w5 hb5
              clear hb5 f0 f1 f2 f3 f4 f5 f6 f7 f8 f9 f10 f11 f12 f13 f14
              obtain ⟨lo, hlo⟩ : ∃ lo, lastOf l (0) ct = lo := ⟨_, rfl⟩
              have HLO := Lib.hid hlo
              clear hlo
              cases lo with
              | none =>
                go_wp2_with (at_lookup; refine wpList_lookup_own_ok_int _ rfl _ _ 102 rfl 3 3 .i64 keyedI Tryd.underlying102 Tryd.underlying3 (zeroI _) _ _ D rfl HM5.out _ _ rfl HKY.out ?_; intro c hat hwc; rw [(HSY.out ct).1, HLO.out])
                have g1 : ∀ p : BelowBy w5, World.cell? p.w ⟨wr.heap.size, 1, none⟩ = some (.int .i64 ci) := fun p => F.out 1 _ rfl p.w (HB5.out.trans (p.hb.mono HB5.out.size))
                clear hat hwc e0
                by_cases hci : ci = 0
                · as_aux_lemma =>
                    have b0 : (ci == 0) = true := by rw [hci]; rfl
                    have b1 : (ci != 0) = false := by rw [hci]; rfl
                    have HG := Lib.hid (show goes l (0) ⟨ct, ci, ⟨ok, okey, oval, oold⟩, cb, ce, cd, ⟨re, rh, rd, rv, rn, rp⟩⟩ = true from (goes_none HAB.out HLO.out HBG.out).trans (by simpa using hci))
                    clear hci
                    refine wp_region_bel (by kernel_rfl) (by kernel_rfl) ?_
                    repeat (first | go_big_quiet_step (fail) | quiet_step (fail))
                    refine wpQuiet_nil ?_
                    intro w6 hw6
                    obtain ⟨⟨w6', hb6⟩, hw6'⟩ := hw6
                    dsimp only at hw6'
                    subst hw6'
                    clear g1 b0 b1
                    have HM6 := Lib.hid (own_bel HM5.out hb6)
                    have B6 := Lib.hid hb6
                    have e0 : w6.cell? ⟨wr.heap.size, 0, none⟩ = some (.int .i64 ct) := F.out 0 _ rfl w6 (HB5.out.trans (hb6.mono HB5.out.size))
                    clear hb6
                    go_wp2_with (at_mapUpdate; refine wpList_mapUpdate_own _ rfl _ _ _ 102 rfl 3 3 keyedI Tryd.underlying102 _ w.heap.size (0) D rfl HM6.out (by have := HLT.out.2.2; unfold maxLen; omega) _ _ _ rfl rfl HKY.out _ [] (plainElem_int Tryd.underlying3 (by first | decide | (have := HLT.out.2.2; simp [Lit.wf, IntKind.min, IntKind.max, IntKind.signed, IntKind.bits]; omega))) ?_; intro w7 hown7 hgrow7)
                    go_roundw
                    case rel => exact ⟨0 + 1, by have := HLT.out.2.2; omega, by go_num, rt_step (q := ⟨⟨ct, ci, ⟨ok, okey, oval, oold⟩, cb, ce, cd, ⟨re, rh, rd, rv, rn, rp⟩⟩, .slice PA rp.length pcap⟩) HM6.out HSY.out HQ.out HGO.out HG.out (Nat.le_refl _) (HB05.out.trans (B6.out.mono HB05.out.size)) (by push_cast; exact hown7) hgrow7⟩
                    case measure => have := HLT.out.2.2; simp [intOf]; omega
                · as_aux_lemma =>
                    have b0 : (ci == 0) = false := by simpa using hci
                    have b1 : (ci != 0) = true := by simpa using hci
                    have HG := Lib.hid (show goes l (0) ⟨ct, ci, ⟨ok, okey, oval, oold⟩, cb, ce, cd, ⟨re, rh, rd, rv, rn, rp⟩⟩ = false from (goes_none HAB.out HLO.out HBG.out).trans (by simpa using hci))
                    clear hci
                    refine wp_region_bel (by kernel_rfl) (by kernel_rfl) ?_
                    repeat (first | go_big_quiet_step (fail) | quiet_step (fail))
                    refine wpQuiet_nil ?_
                    intro w6 hw6
                    obtain ⟨⟨w6', hb6⟩, hw6'⟩ := hw6
                    dsimp only at hw6'
                    subst hw6'
                    have B6 := Lib.hid hb6
                    clear g1 b0 b1 hb6
                    go_wp2_with fail
                    go_ret
                    refine ⟨?_, HB05.out.trans (B6.out.mono HB05.out.size)⟩
                    have : rightM l = false := goesUp_no HQ.out HG.out HLT.out.2.2
                    rw [this]; rfl
              | some j =>
                as_aux_lemma =>
                  obtain ⟨hjl, ql, hql, hqt⟩ := lastOf_lt HLO.out
                  have HJ := Lib.hid ((HSY.out ct).2 j HLO.out)
                  have hal := goes_alone (goesUp_at hql HGO.out hjl)
                  have hix := alone_index hal
                  obtain ⟨hPj, bj, zj, ej, hbj, hcj⟩ := HC0.out j ql hql
                  have ejz : bj = b ∧ zj = z := by
                    injection ej with ej
                    injection ej with e1 e2
                    exact ⟨e1.symm, e2.symm⟩
                  obtain ⟨rfl, rfl⟩ := ejz
                  have HQL := Lib.hid hql
                  have hjlen : j < l.length := by have := HLT.out.2.2; omega
                  obtain ⟨⟨jt, ji, ⟨jok, jokey, joval, joold⟩, jb, je, jd, ⟨jre, jrh, jrd, jrv, jrn, jrp⟩⟩, jpv⟩ := ql
                  dsimp only at hPj hix hcj
                  have GF := Lib.hid (show ∀ i v, (callC ⟨jt, ji, ⟨jok, jokey, joval, joold⟩, jb, je, jd, ⟨jre, jrh, jrd, jrv, jrn, jrp⟩⟩ jpv)[i]? = some v → ∀ W, Below w.heap.size w W → W.cell? ⟨bj, zj + j * 15 + i, none⟩ = some v from fun i v hv W hW => (hW.cell (p := ⟨bj, zj + j * 15 + i, none⟩) hbj).trans (hcj i v hv))
                  obtain ⟨JA, jcap, rfl, _, _⟩ := hPj
                  have CBB := Lib.hid (fun p : BelowBy w5 => calls_bel (p := p) (before_any p.w ⟨jt, ji, ⟨jok, jokey, joval, joold⟩, jb, je, jd, ⟨jre, jrh, jrd, jrv, jrn, jrp⟩⟩ ⟨ct, ci, ⟨ok, okey, oval, oold⟩, cb, ce, cd, ⟨re, rh, rd, rv, rn, rp⟩⟩ (.slice JA jrp.length jcap) (.slice PA rp.length pcap)))
                  unfold encC callC at CBB
                  dsimp only at CBB
                  clear hcj hql hqt hal ej hbj hjl
                  go_wp2_with ((at_lookup; refine wpList_lookup_own_ok_int _ rfl _ _ 102 rfl 3 3 .i64 keyedI Tryd.underlying102 Tryd.underlying3 (zeroI _) _ _ D rfl HM5.out _ _ rfl HKY.out ?_; intro c hat hwc; rw [(HSY.out ct).1, HLO.out]); obtain rfl : c = (j : Int) := by (have := hat.symm.trans HJ.out; injection this with this; injection this with _ this))
                  clear hat hwc e0
                  have w1 : IntKind.i64.wrap (ji + 1) = ji + 1 := IntWalk.i64_in _ (by omega)
                  have HIX := Lib.hid hix
                  clear hix
                  have hj0 : (0 : Int) ≤ (j : Int) := by omega
                  have hj1 : ((j : Int)).toNat = j := rfl
                  have g0 : ∀ p : BelowBy w5, World.cell? p.w ⟨wr.heap.size, 0, none⟩ = some (.int .i64 ct) := fun p => F.out 0 _ rfl p.w (HB5.out.trans (p.hb.mono HB5.out.size))
                  have g1 : ∀ p : BelowBy w5, World.cell? p.w ⟨wr.heap.size, 1, none⟩ = some (.int .i64 ci) := fun p => F.out 1 _ rfl p.w (HB5.out.trans (p.hb.mono HB5.out.size))
                  have g2 : ∀ p : BelowBy w5, World.cell? p.w ⟨wr.heap.size, 2, none⟩ = some (.int .i64 ok) := fun p => F.out 2 _ rfl p.w (HB5.out.trans (p.hb.mono HB5.out.size))
                  have g3 : ∀ p : BelowBy w5, World.cell? p.w ⟨wr.heap.size, 3, none⟩ = some (.string okey) := fun p => F.out 3 _ rfl p.w (HB5.out.trans (p.hb.mono HB5.out.size))
                  have g4 : ∀ p : BelowBy w5, World.cell? p.w ⟨wr.heap.size, 4, none⟩ = some (.string oval) := fun p => F.out 4 _ rfl p.w (HB5.out.trans (p.hb.mono HB5.out.size))
                  have g5 : ∀ p : BelowBy w5, World.cell? p.w ⟨wr.heap.size, 5, none⟩ = some (.string oold) := fun p => F.out 5 _ rfl p.w (HB5.out.trans (p.hb.mono HB5.out.size))
                  have g6 : ∀ p : BelowBy w5, World.cell? p.w ⟨wr.heap.size, 6, none⟩ = some (.int .i64 cb) := fun p => F.out 6 _ rfl p.w (HB5.out.trans (p.hb.mono HB5.out.size))
                  have g7 : ∀ p : BelowBy w5, World.cell? p.w ⟨wr.heap.size, 7, none⟩ = some (.int .i64 ce) := fun p => F.out 7 _ rfl p.w (HB5.out.trans (p.hb.mono HB5.out.size))
                  have g8 : ∀ p : BelowBy w5, World.cell? p.w ⟨wr.heap.size, 8, none⟩ = some (.bool cd) := fun p => F.out 8 _ rfl p.w (HB5.out.trans (p.hb.mono HB5.out.size))
                  have g9 : ∀ p : BelowBy w5, World.cell? p.w ⟨wr.heap.size, 9, none⟩ = some (.int .i64 re) := fun p => F.out 9 _ rfl p.w (HB5.out.trans (p.hb.mono HB5.out.size))
                  have g10 : ∀ p : BelowBy w5, World.cell? p.w ⟨wr.heap.size, 10, none⟩ = some (.bool rh) := fun p => F.out 10 _ rfl p.w (HB5.out.trans (p.hb.mono HB5.out.size))
                  have g11 : ∀ p : BelowBy w5, World.cell? p.w ⟨wr.heap.size, 11, none⟩ = some (.bool rd) := fun p => F.out 11 _ rfl p.w (HB5.out.trans (p.hb.mono HB5.out.size))
                  have g12 : ∀ p : BelowBy w5, World.cell? p.w ⟨wr.heap.size, 12, none⟩ = some (.string rv) := fun p => F.out 12 _ rfl p.w (HB5.out.trans (p.hb.mono HB5.out.size))
                  have g13 : ∀ p : BelowBy w5, World.cell? p.w ⟨wr.heap.size, 13, none⟩ = some (.int .i64 rn) := fun p => F.out 13 _ rfl p.w (HB5.out.trans (p.hb.mono HB5.out.size))
                  have g14 : ∀ p : BelowBy w5, World.cell? p.w ⟨wr.heap.size, 14, none⟩ = some (.slice PA rp.length pcap) := fun p => F.out 14 _ rfl p.w (HB5.out.trans (p.hb.mono HB5.out.size))
                  have k0 : ∀ p : BelowBy w5, World.cell? p.w ⟨bj, zj + j * 15, none⟩ = some (.int .i64 jt) := fun p => GF.out 0 _ rfl p.w (HB05.out.trans (p.hb.mono HB05.out.size))
                  have k1 : ∀ p : BelowBy w5, World.cell? p.w ⟨bj, zj + j * 15 + 1, none⟩ = some (.int .i64 ji) := fun p => GF.out 1 _ rfl p.w (HB05.out.trans (p.hb.mono HB05.out.size))
                  have k2 : ∀ p : BelowBy w5, World.cell? p.w ⟨bj, zj + j * 15 + 2, none⟩ = some (.int .i64 jok) := fun p => GF.out 2 _ rfl p.w (HB05.out.trans (p.hb.mono HB05.out.size))
                  have k3 : ∀ p : BelowBy w5, World.cell? p.w ⟨bj, zj + j * 15 + 3, none⟩ = some (.string jokey) := fun p => GF.out 3 _ rfl p.w (HB05.out.trans (p.hb.mono HB05.out.size))
                  have k4 : ∀ p : BelowBy w5, World.cell? p.w ⟨bj, zj + j * 15 + 4, none⟩ = some (.string joval) := fun p => GF.out 4 _ rfl p.w (HB05.out.trans (p.hb.mono HB05.out.size))
                  have k5 : ∀ p : BelowBy w5, World.cell? p.w ⟨bj, zj + j * 15 + 5, none⟩ = some (.string joold) := fun p => GF.out 5 _ rfl p.w (HB05.out.trans (p.hb.mono HB05.out.size))
                  have k6 : ∀ p : BelowBy w5, World.cell? p.w ⟨bj, zj + j * 15 + 6, none⟩ = some (.int .i64 jb) := fun p => GF.out 6 _ rfl p.w (HB05.out.trans (p.hb.mono HB05.out.size))
                  have k7 : ∀ p : BelowBy w5, World.cell? p.w ⟨bj, zj + j * 15 + 7, none⟩ = some (.int .i64 je) := fun p => GF.out 7 _ rfl p.w (HB05.out.trans (p.hb.mono HB05.out.size))
                  have k8 : ∀ p : BelowBy w5, World.cell? p.w ⟨bj, zj + j * 15 + 8, none⟩ = some (.bool jd) := fun p => GF.out 8 _ rfl p.w (HB05.out.trans (p.hb.mono HB05.out.size))
                  have k9 : ∀ p : BelowBy w5, World.cell? p.w ⟨bj, zj + j * 15 + 9, none⟩ = some (.int .i64 jre) := fun p => GF.out 9 _ rfl p.w (HB05.out.trans (p.hb.mono HB05.out.size))
                  have k10 : ∀ p : BelowBy w5, World.cell? p.w ⟨bj, zj + j * 15 + 10, none⟩ = some (.bool jrh) := fun p => GF.out 10 _ rfl p.w (HB05.out.trans (p.hb.mono HB05.out.size))
                  have k11 : ∀ p : BelowBy w5, World.cell? p.w ⟨bj, zj + j * 15 + 11, none⟩ = some (.bool jrd) := fun p => GF.out 11 _ rfl p.w (HB05.out.trans (p.hb.mono HB05.out.size))
                  have k12 : ∀ p : BelowBy w5, World.cell? p.w ⟨bj, zj + j * 15 + 12, none⟩ = some (.string jrv) := fun p => GF.out 12 _ rfl p.w (HB05.out.trans (p.hb.mono HB05.out.size))
                  have k13 : ∀ p : BelowBy w5, World.cell? p.w ⟨bj, zj + j * 15 + 13, none⟩ = some (.int .i64 jrn) := fun p => GF.out 13 _ rfl p.w (HB05.out.trans (p.hb.mono HB05.out.size))
                  have k14 : ∀ p : BelowBy w5, World.cell? p.w ⟨bj, zj + j * 15 + 14, none⟩ = some (.slice JA jrp.length jcap) := fun p => GF.out 14 _ rfl p.w (HB05.out.trans (p.hb.mono HB05.out.size))
                  by_cases hci : ci = ji + 1
                  · as_aux_lemma =>
                      have b0 : (ci == ji + 1) = true := by simpa using hci
                      have b1 : (ci != ji + 1) = false := by simpa using hci
                      have HCI := Lib.hid hci
                      clear hci
                      obtain ⟨bb, hbb⟩ : ∃ bb, bef ⟨jt, ji, ⟨jok, jokey, joval, joold⟩, jb, je, jd, ⟨jre, jrh, jrd, jrv, jrn, jrp⟩⟩ ⟨ct, ci, ⟨ok, okey, oval, oold⟩, cb, ce, cd, ⟨re, rh, rd, rv, rn, rp⟩⟩ = bb := ⟨_, rfl⟩
                      have CB := CBB
                      rw [hbb] at CB
                      have HBB := Lib.hid hbb
                      clear hbb
                      cases bb with
                      | true =>
                        as_aux_lemma =>
                          have HG := Lib.hid (show goes l (0) ⟨ct, ci, ⟨ok, okey, oval, oold⟩, cb, ce, cd, ⟨re, rh, rd, rv, rn, rp⟩⟩ = true from (goes_some HAB.out HLO.out HQL.out HBG.out).trans (by rw [HBB.out]; simpa using HCI.out))
                          refine wp_region_bel (by kernel_rfl) (by kernel_rfl) ?_
                          repeat (first | go_big_quiet_step ((go_at_call 22; exact CB.out _)) | quiet_step ((go_at_call 22; exact CB.out _)))
                          refine wpQuiet_nil ?_
                          intro w6 hw6
                          obtain ⟨⟨w6', hb6⟩, hw6'⟩ := hw6
                          dsimp only at hw6'
                          subst hw6'
                          clear g0 k0 g1 k1 g2 k2 g3 k3 g4 k4 g5 k5 g6 k6 g7 k7 g8 k8 g9 k9 g10 k10 g11 k11 g12 k12 g13 k13 g14 k14 w1 b0 b1
                          have HM6 := Lib.hid (own_bel HM5.out hb6)
                          have B6 := Lib.hid hb6
                          have e0 : w6.cell? ⟨wr.heap.size, 0, none⟩ = some (.int .i64 ct) := F.out 0 _ rfl w6 (HB5.out.trans (hb6.mono HB5.out.size))
                          clear hb6
                          go_wp2_with (at_mapUpdate; refine wpList_mapUpdate_own _ rfl _ _ _ 102 rfl 3 3 keyedI Tryd.underlying102 _ w.heap.size (0) D rfl HM6.out (by have := HLT.out.2.2; unfold maxLen; omega) _ _ _ rfl rfl HKY.out _ [] (plainElem_int Tryd.underlying3 (by first | decide | (have := HLT.out.2.2; simp [Lit.wf, IntKind.min, IntKind.max, IntKind.signed, IntKind.bits]; omega))) ?_; intro w7 hown7 hgrow7)
                          go_roundw
                          case rel => exact ⟨0 + 1, by have := HLT.out.2.2; omega, by go_num, rt_step (q := ⟨⟨ct, ci, ⟨ok, okey, oval, oold⟩, cb, ce, cd, ⟨re, rh, rd, rv, rn, rp⟩⟩, .slice PA rp.length pcap⟩) HM6.out HSY.out HQ.out HGO.out HG.out (Nat.le_refl _) (HB05.out.trans (B6.out.mono HB05.out.size)) (by push_cast; exact hown7) hgrow7⟩
                          case measure => have := HLT.out.2.2; simp [intOf]; omega
                      | false =>
                        as_aux_lemma =>
                          have HG := Lib.hid (show goes l (0) ⟨ct, ci, ⟨ok, okey, oval, oold⟩, cb, ce, cd, ⟨re, rh, rd, rv, rn, rp⟩⟩ = false from (goes_some HAB.out HLO.out HQL.out HBG.out).trans (by rw [HBB.out]; simp))
                          refine wp_region_bel (by kernel_rfl) (by kernel_rfl) ?_
                          repeat (first | go_big_quiet_step ((go_at_call 22; exact CB.out _)) | quiet_step ((go_at_call 22; exact CB.out _)))
                          refine wpQuiet_nil ?_
                          intro w6 hw6
                          obtain ⟨⟨w6', hb6⟩, hw6'⟩ := hw6
                          dsimp only at hw6'
                          subst hw6'
                          have B6 := Lib.hid hb6
                          clear g0 k0 g1 k1 g2 k2 g3 k3 g4 k4 g5 k5 g6 k6 g7 k7 g8 k8 g9 k9 g10 k10 g11 k11 g12 k12 g13 k13 g14 k14 w1 hb6 b0 b1
                          go_wp2_with fail
                          go_ret
                          refine ⟨?_, HB05.out.trans (B6.out.mono HB05.out.size)⟩
                          have : rightM l = false := goesUp_no HQ.out HG.out HLT.out.2.2
                          rw [this]; rfl
                  · as_aux_lemma =>
                      have b0 : (ci == ji + 1) = false := by simpa using hci
                      have b1 : (ci != ji + 1) = true := by simpa using hci
                      have HG := Lib.hid (show goes l (0) ⟨ct, ci, ⟨ok, okey, oval, oold⟩, cb, ce, cd, ⟨re, rh, rd, rv, rn, rp⟩⟩ = false from (goes_some HAB.out HLO.out HQL.out HBG.out).trans (by simp [hci]))
                      clear hci
                      refine wp_region_bel (by kernel_rfl) (by kernel_rfl) ?_
                      repeat (first | go_big_quiet_step (fail) | quiet_step (fail))
                      refine wpQuiet_nil ?_
                      intro w6 hw6
                      obtain ⟨⟨w6', hb6⟩, hw6'⟩ := hw6
                      dsimp only at hw6'
                      subst hw6'
                      have B6 := Lib.hid hb6
                      clear g0 k0 g1 k1 g2 k2 g3 k3 g4 k4 g5 k5 g6 k6 g7 k7 g8 k8 g9 k9 g10 k10 g11 k11 g12 k12 g13 k13 g14 k14 w1 hb6 b0 b1
                      go_wp2_with fail
                      go_ret
                      refine ⟨?_, HB05.out.trans (B6.out.mono HB05.out.size)⟩
                      have : rightM l = false := goesUp_no HQ.out HG.out HLT.out.2.2
                      rw [this]; rfl
          | succ k' =>
            as_aux_lemma =>
              obtain ⟨qp, hqp⟩ : ∃ qp, l[k']? = some qp := ⟨_, List.getElem?_eq_getElem (by omega)⟩
              have g6 : ∀ p : BelowBy W0, World.cell? p.w ⟨b, z + k' * 15 + 6, none⟩ = some (.int .i64 qp.1.begin_) := fun p => by
                obtain ⟨_, b', z', e, hb', hc'⟩ := HC0.out k' qp hqp
                injection e with e
                injection e with e1 e2
                subst e1; subst e2
                exact ((HB0.out.trans (p.hb.mono HB0.out.size)).cell (p := ⟨b, z + k' * 15 + 6, none⟩) hb').trans (hc' 6 _ rfl)
              have HQP := Lib.hid hqp
              clear hqp
              by_cases hbg : cb ≤ qp.1.begin_
              · as_aux_lemma =>
                  have HG := Lib.hid (goes_late (c := ⟨ct, ci, ⟨ok, okey, oval, oold⟩, cb, ce, cd, ⟨re, rh, rd, rv, rn, rp⟩⟩) HQP.out hbg)
                  have d1 : decide (cb ≤ qp.1.begin_) = true := decide_eq_true hbg
                  have d2 : decide (qp.1.begin_ ≥ cb) = true := decide_eq_true hbg
                  clear hbg
                  refine wp_region_bel (by kernel_rfl) (by kernel_rfl) ?_
                  repeat (first | go_big_quiet_step ((go_at_call 62; exact CA.out _)) | quiet_step ((go_at_call 62; exact CA.out _)))
                  refine wpQuiet_nil ?_
                  intro w5 hw5
                  obtain ⟨⟨w5', hb5⟩, hw5'⟩ := hw5
                  dsimp only at hw5'
                  subst hw5'
                  have B5 := Lib.hid hb5
                  clear hb5 f0 f1 f2 f3 f4 f5 f6 f7 f8 f9 f10 f11 f12 f13 f14 g6
                  go_wp2_with fail
                  go_ret
                  refine ⟨?_, HB0.out.trans (B5.out.mono HB0.out.size)⟩
                  have : rightM l = false := goesUp_no HQ.out HG.out HLT.out.2.2
                  rw [this]; rfl
              · as_aux_lemma =>
                  have HBG := Lib.hid (goes_in (c := ⟨ct, ci, ⟨ok, okey, oval, oold⟩, cb, ce, cd, ⟨re, rh, rd, rv, rn, rp⟩⟩) HQP.out hbg)
                  have d1 : decide (cb ≤ qp.1.begin_) = false := decide_eq_false hbg
                  have d2 : decide (qp.1.begin_ ≥ cb) = false := decide_eq_false hbg
                  clear hbg
                  refine wp_region_bel (by kernel_rfl) (by kernel_rfl) ?_
                  repeat (first | go_big_quiet_step ((go_at_call 62; exact CA.out _)) | quiet_step ((go_at_call 62; exact CA.out _)))
                  refine wpQuiet_nil ?_
                  intro w5 hw5
                  obtain ⟨⟨w5', hb5⟩, hw5'⟩ := hw5
                  dsimp only at hw5'
                  subst hw5'
                  clear g6 d1 d2
                  have B5 := Lib.hid hb5
                  have HM5 := Lib.hid (own_bel HM.out (HW0.out.2.2.trans (hb5.mono (Nat.le_of_lt HW0.out.1))))
                  have HKY := Lib.hid (keyI HKQ.out.2.2.1 HKQ.out.2.2.2)
                  have HB05 := Lib.hid (HB0.out.trans (hb5.mono HB0.out.size))
                  have HB5 := Lib.hid hb5
                  have e0 : w5.cell? ⟨wr.heap.size, 0, none⟩ = some (.int .i64 ct) := F.out 0 _ rfl w5 hb5
                  clear hb5 f0 f1 f2 f3 f4 f5 f6 f7 f8 f9 f10 f11 f12 f13 f14
                  obtain ⟨lo, hlo⟩ : ∃ lo, lastOf l (k' + 1) ct = lo := ⟨_, rfl⟩
                  have HLO := Lib.hid hlo
                  clear hlo
                  cases lo with
                  | none =>
                    go_wp2_with (at_lookup; refine wpList_lookup_own_ok_int _ rfl _ _ 102 rfl 3 3 .i64 keyedI Tryd.underlying102 Tryd.underlying3 (zeroI _) _ _ D rfl HM5.out _ _ rfl HKY.out ?_; intro c hat hwc; rw [(HSY.out ct).1, HLO.out])
                    have g1 : ∀ p : BelowBy w5, World.cell? p.w ⟨wr.heap.size, 1, none⟩ = some (.int .i64 ci) := fun p => F.out 1 _ rfl p.w (HB5.out.trans (p.hb.mono HB5.out.size))
                    clear hat hwc e0
                    by_cases hci : ci = 0
                    · as_aux_lemma =>
                        have b0 : (ci == 0) = true := by rw [hci]; rfl
                        have b1 : (ci != 0) = false := by rw [hci]; rfl
                        have HG := Lib.hid (show goes l (k' + 1) ⟨ct, ci, ⟨ok, okey, oval, oold⟩, cb, ce, cd, ⟨re, rh, rd, rv, rn, rp⟩⟩ = true from (goes_none HAB.out HLO.out HBG.out).trans (by simpa using hci))
                        clear hci
                        refine wp_region_bel (by kernel_rfl) (by kernel_rfl) ?_
                        repeat (first | go_big_quiet_step (fail) | quiet_step (fail))
                        refine wpQuiet_nil ?_
                        intro w6 hw6
                        obtain ⟨⟨w6', hb6⟩, hw6'⟩ := hw6
                        dsimp only at hw6'
                        subst hw6'
                        clear g1 b0 b1
                        have HM6 := Lib.hid (own_bel HM5.out hb6)
                        have B6 := Lib.hid hb6
                        have e0 : w6.cell? ⟨wr.heap.size, 0, none⟩ = some (.int .i64 ct) := F.out 0 _ rfl w6 (HB5.out.trans (hb6.mono HB5.out.size))
                        clear hb6
                        go_wp2_with (at_mapUpdate; refine wpList_mapUpdate_own _ rfl _ _ _ 102 rfl 3 3 keyedI Tryd.underlying102 _ w.heap.size (k' + 1) D rfl HM6.out (by have := HLT.out.2.2; unfold maxLen; omega) _ _ _ rfl rfl HKY.out _ [] (plainElem_int Tryd.underlying3 (by first | decide | (have := HLT.out.2.2; simp [Lit.wf, IntKind.min, IntKind.max, IntKind.signed, IntKind.bits]; omega))) ?_; intro w7 hown7 hgrow7)
                        go_roundw
                        case rel => exact ⟨k' + 1 + 1, by have := HLT.out.2.2; omega, by go_num, rt_step (q := ⟨⟨ct, ci, ⟨ok, okey, oval, oold⟩, cb, ce, cd, ⟨re, rh, rd, rv, rn, rp⟩⟩, .slice PA rp.length pcap⟩) HM6.out HSY.out HQ.out HGO.out HG.out (Nat.le_refl _) (HB05.out.trans (B6.out.mono HB05.out.size)) (by push_cast; exact hown7) hgrow7⟩
                        case measure => have := HLT.out.2.2; simp [intOf]; omega
                    · as_aux_lemma =>
                        have b0 : (ci == 0) = false := by simpa using hci
                        have b1 : (ci != 0) = true := by simpa using hci
                        have HG := Lib.hid (show goes l (k' + 1) ⟨ct, ci, ⟨ok, okey, oval, oold⟩, cb, ce, cd, ⟨re, rh, rd, rv, rn, rp⟩⟩ = false from (goes_none HAB.out HLO.out HBG.out).trans (by simpa using hci))
                        clear hci
                        refine wp_region_bel (by kernel_rfl) (by kernel_rfl) ?_
                        repeat (first | go_big_quiet_step (fail) | quiet_step (fail))
                        refine wpQuiet_nil ?_
                        intro w6 hw6
                        obtain ⟨⟨w6', hb6⟩, hw6'⟩ := hw6
                        dsimp only at hw6'
                        subst hw6'
                        have B6 := Lib.hid hb6
                        clear g1 b0 b1 hb6
                        go_wp2_with fail
                        go_ret
                        refine ⟨?_, HB05.out.trans (B6.out.mono HB05.out.size)⟩
                        have : rightM l = false := goesUp_no HQ.out HG.out HLT.out.2.2
                        rw [this]; rfl
                  | some j =>
                    as_aux_lemma =>
                      obtain ⟨hjl, ql, hql, hqt⟩ := lastOf_lt HLO.out
                      have HJ := Lib.hid ((HSY.out ct).2 j HLO.out)
                      have hal := goes_alone (goesUp_at hql HGO.out hjl)
                      have hix := alone_index hal
                      obtain ⟨hPj, bj, zj, ej, hbj, hcj⟩ := HC0.out j ql hql
                      have ejz : bj = b ∧ zj = z := by
                        injection ej with ej
                        injection ej with e1 e2
                        exact ⟨e1.symm, e2.symm⟩
                      obtain ⟨rfl, rfl⟩ := ejz
                      have HQL := Lib.hid hql
                      have hjlen : j < l.length := by have := HLT.out.2.2; omega
                      obtain ⟨⟨jt, ji, ⟨jok, jokey, joval, joold⟩, jb, je, jd, ⟨jre, jrh, jrd, jrv, jrn, jrp⟩⟩, jpv⟩ := ql
                      dsimp only at hPj hix hcj
                      have GF := Lib.hid (show ∀ i v, (callC ⟨jt, ji, ⟨jok, jokey, joval, joold⟩, jb, je, jd, ⟨jre, jrh, jrd, jrv, jrn, jrp⟩⟩ jpv)[i]? = some v → ∀ W, Below w.heap.size w W → W.cell? ⟨bj, zj + j * 15 + i, none⟩ = some v from fun i v hv W hW => (hW.cell (p := ⟨bj, zj + j * 15 + i, none⟩) hbj).trans (hcj i v hv))
                      obtain ⟨JA, jcap, rfl, _, _⟩ := hPj
                      have CBB := Lib.hid (fun p : BelowBy w5 => calls_bel (p := p) (before_any p.w ⟨jt, ji, ⟨jok, jokey, joval, joold⟩, jb, je, jd, ⟨jre, jrh, jrd, jrv, jrn, jrp⟩⟩ ⟨ct, ci, ⟨ok, okey, oval, oold⟩, cb, ce, cd, ⟨re, rh, rd, rv, rn, rp⟩⟩ (.slice JA jrp.length jcap) (.slice PA rp.length pcap)))
                      unfold encC callC at CBB
                      dsimp only at CBB
                      clear hcj hql hqt hal ej hbj hjl
                      go_wp2_with ((at_lookup; refine wpList_lookup_own_ok_int _ rfl _ _ 102 rfl 3 3 .i64 keyedI Tryd.underlying102 Tryd.underlying3 (zeroI _) _ _ D rfl HM5.out _ _ rfl HKY.out ?_; intro c hat hwc; rw [(HSY.out ct).1, HLO.out]); obtain rfl : c = (j : Int) := by (have := hat.symm.trans HJ.out; injection this with this; injection this with _ this))
                      clear hat hwc e0
                      have w1 : IntKind.i64.wrap (ji + 1) = ji + 1 := IntWalk.i64_in _ (by omega)
                      have HIX := Lib.hid hix
                      clear hix
                      have hj0 : (0 : Int) ≤ (j : Int) := by omega
                      have hj1 : ((j : Int)).toNat = j := rfl
                      have g0 : ∀ p : BelowBy w5, World.cell? p.w ⟨wr.heap.size, 0, none⟩ = some (.int .i64 ct) := fun p => F.out 0 _ rfl p.w (HB5.out.trans (p.hb.mono HB5.out.size))
                      have g1 : ∀ p : BelowBy w5, World.cell? p.w ⟨wr.heap.size, 1, none⟩ = some (.int .i64 ci) := fun p => F.out 1 _ rfl p.w (HB5.out.trans (p.hb.mono HB5.out.size))
                      have g2 : ∀ p : BelowBy w5, World.cell? p.w ⟨wr.heap.size, 2, none⟩ = some (.int .i64 ok) := fun p => F.out 2 _ rfl p.w (HB5.out.trans (p.hb.mono HB5.out.size))
                      have g3 : ∀ p : BelowBy w5, World.cell? p.w ⟨wr.heap.size, 3, none⟩ = some (.string okey) := fun p => F.out 3 _ rfl p.w (HB5.out.trans (p.hb.mono HB5.out.size))
                      have g4 : ∀ p : BelowBy w5, World.cell? p.w ⟨wr.heap.size, 4, none⟩ = some (.string oval) := fun p => F.out 4 _ rfl p.w (HB5.out.trans (p.hb.mono HB5.out.size))
                      have g5 : ∀ p : BelowBy w5, World.cell? p.w ⟨wr.heap.size, 5, none⟩ = some (.string oold) := fun p => F.out 5 _ rfl p.w (HB5.out.trans (p.hb.mono HB5.out.size))
                      have g6 : ∀ p : BelowBy w5, World.cell? p.w ⟨wr.heap.size, 6, none⟩ = some (.int .i64 cb) := fun p => F.out 6 _ rfl p.w (HB5.out.trans (p.hb.mono HB5.out.size))
                      have g7 : ∀ p : BelowBy w5, World.cell? p.w ⟨wr.heap.size, 7, none⟩ = some (.int .i64 ce) := fun p => F.out 7 _ rfl p.w (HB5.out.trans (p.hb.mono HB5.out.size))
                      have g8 : ∀ p : BelowBy w5, World.cell? p.w ⟨wr.heap.size, 8, none⟩ = some (.bool cd) := fun p => F.out 8 _ rfl p.w (HB5.out.trans (p.hb.mono HB5.out.size))
                      have g9 : ∀ p : BelowBy w5, World.cell? p.w ⟨wr.heap.size, 9, none⟩ = some (.int .i64 re) := fun p => F.out 9 _ rfl p.w (HB5.out.trans (p.hb.mono HB5.out.size))
                      have g10 : ∀ p : BelowBy w5, World.cell? p.w ⟨wr.heap.size, 10, none⟩ = some (.bool rh) := fun p => F.out 10 _ rfl p.w (HB5.out.trans (p.hb.mono HB5.out.size))
                      have g11 : ∀ p : BelowBy w5, World.cell? p.w ⟨wr.heap.size, 11, none⟩ = some (.bool rd) := fun p => F.out 11 _ rfl p.w (HB5.out.trans (p.hb.mono HB5.out.size))
                      have g12 : ∀ p : BelowBy w5, World.cell? p.w ⟨wr.heap.size, 12, none⟩ = some (.string rv) := fun p => F.out 12 _ rfl p.w (HB5.out.trans (p.hb.mono HB5.out.size))
                      have g13 : ∀ p : BelowBy w5, World.cell? p.w ⟨wr.heap.size, 13, none⟩ = some (.int .i64 rn) := fun p => F.out 13 _ rfl p.w (HB5.out.trans (p.hb.mono HB5.out.size))
                      have g14 : ∀ p : BelowBy w5, World.cell? p.w ⟨wr.heap.size, 14, none⟩ = some (.slice PA rp.length pcap) := fun p => F.out 14 _ rfl p.w (HB5.out.trans (p.hb.mono HB5.out.size))
                      have k0 : ∀ p : BelowBy w5, World.cell? p.w ⟨bj, zj + j * 15, none⟩ = some (.int .i64 jt) := fun p => GF.out 0 _ rfl p.w (HB05.out.trans (p.hb.mono HB05.out.size))
                      have k1 : ∀ p : BelowBy w5, World.cell? p.w ⟨bj, zj + j * 15 + 1, none⟩ = some (.int .i64 ji) := fun p => GF.out 1 _ rfl p.w (HB05.out.trans (p.hb.mono HB05.out.size))
                      have k2 : ∀ p : BelowBy w5, World.cell? p.w ⟨bj, zj + j * 15 + 2, none⟩ = some (.int .i64 jok) := fun p => GF.out 2 _ rfl p.w (HB05.out.trans (p.hb.mono HB05.out.size))
                      have k3 : ∀ p : BelowBy w5, World.cell? p.w ⟨bj, zj + j * 15 + 3, none⟩ = some (.string jokey) := fun p => GF.out 3 _ rfl p.w (HB05.out.trans (p.hb.mono HB05.out.size))
                      have k4 : ∀ p : BelowBy w5, World.cell? p.w ⟨bj, zj + j * 15 + 4, none⟩ = some (.string joval) := fun p => GF.out 4 _ rfl p.w (HB05.out.trans (p.hb.mono HB05.out.size))
                      have k5 : ∀ p : BelowBy w5, World.cell? p.w ⟨bj, zj + j * 15 + 5, none⟩ = some (.string joold) := fun p => GF.out 5 _ rfl p.w (HB05.out.trans (p.hb.mono HB05.out.size))
                      have k6 : ∀ p : BelowBy w5, World.cell? p.w ⟨bj, zj + j * 15 + 6, none⟩ = some (.int .i64 jb) := fun p => GF.out 6 _ rfl p.w (HB05.out.trans (p.hb.mono HB05.out.size))
                      have k7 : ∀ p : BelowBy w5, World.cell? p.w ⟨bj, zj + j * 15 + 7, none⟩ = some (.int .i64 je) := fun p => GF.out 7 _ rfl p.w (HB05.out.trans (p.hb.mono HB05.out.size))
                      have k8 : ∀ p : BelowBy w5, World.cell? p.w ⟨bj, zj + j * 15 + 8, none⟩ = some (.bool jd) := fun p => GF.out 8 _ rfl p.w (HB05.out.trans (p.hb.mono HB05.out.size))
                      have k9 : ∀ p : BelowBy w5, World.cell? p.w ⟨bj, zj + j * 15 + 9, none⟩ = some (.int .i64 jre) := fun p => GF.out 9 _ rfl p.w (HB05.out.trans (p.hb.mono HB05.out.size))
                      have k10 : ∀ p : BelowBy w5, World.cell? p.w ⟨bj, zj + j * 15 + 10, none⟩ = some (.bool jrh) := fun p => GF.out 10 _ rfl p.w (HB05.out.trans (p.hb.mono HB05.out.size))
                      have k11 : ∀ p : BelowBy w5, World.cell? p.w ⟨bj, zj + j * 15 + 11, none⟩ = some (.bool jrd) := fun p => GF.out 11 _ rfl p.w (HB05.out.trans (p.hb.mono HB05.out.size))
                      have k12 : ∀ p : BelowBy w5, World.cell? p.w ⟨bj, zj + j * 15 + 12, none⟩ = some (.string jrv) := fun p => GF.out 12 _ rfl p.w (HB05.out.trans (p.hb.mono HB05.out.size))
                      have k13 : ∀ p : BelowBy w5, World.cell? p.w ⟨bj, zj + j * 15 + 13, none⟩ = some (.int .i64 jrn) := fun p => GF.out 13 _ rfl p.w (HB05.out.trans (p.hb.mono HB05.out.size))
                      have k14 : ∀ p : BelowBy w5, World.cell? p.w ⟨bj, zj + j * 15 + 14, none⟩ = some (.slice JA jrp.length jcap) := fun p => GF.out 14 _ rfl p.w (HB05.out.trans (p.hb.mono HB05.out.size))
                      by_cases hci : ci = ji + 1
                      · as_aux_lemma =>
                          have b0 : (ci == ji + 1) = true := by simpa using hci
                          have b1 : (ci != ji + 1) = false := by simpa using hci
                          have HCI := Lib.hid hci
                          clear hci
                          obtain ⟨bb, hbb⟩ : ∃ bb, bef ⟨jt, ji, ⟨jok, jokey, joval, joold⟩, jb, je, jd, ⟨jre, jrh, jrd, jrv, jrn, jrp⟩⟩ ⟨ct, ci, ⟨ok, okey, oval, oold⟩, cb, ce, cd, ⟨re, rh, rd, rv, rn, rp⟩⟩ = bb := ⟨_, rfl⟩
                          have CB := CBB
                          rw [hbb] at CB
                          have HBB := Lib.hid hbb
                          clear hbb
                          cases bb with
                          | true =>
                            as_aux_lemma =>
                              have HG := Lib.hid (show goes l (k' + 1) ⟨ct, ci, ⟨ok, okey, oval, oold⟩, cb, ce, cd, ⟨re, rh, rd, rv, rn, rp⟩⟩ = true from (goes_some HAB.out HLO.out HQL.out HBG.out).trans (by rw [HBB.out]; simpa using HCI.out))
                              refine wp_region_bel (by kernel_rfl) (by kernel_rfl) ?_
                              repeat (first | go_big_quiet_step ((go_at_call 22; exact CB.out _)) | quiet_step ((go_at_call 22; exact CB.out _)))
                              refine wpQuiet_nil ?_
                              intro w6 hw6
                              obtain ⟨⟨w6', hb6⟩, hw6'⟩ := hw6
                              dsimp only at hw6'
                              subst hw6'
                              clear g0 k0 g1 k1 g2 k2 g3 k3 g4 k4 g5 k5 g6 k6 g7 k7 g8 k8 g9 k9 g10 k10 g11 k11 g12 k12 g13 k13 g14 k14 w1 b0 b1
                              have HM6 := Lib.hid (own_bel HM5.out hb6)
                              have B6 := Lib.hid hb6
                              have e0 : w6.cell? ⟨wr.heap.size, 0, none⟩ = some (.int .i64 ct) := F.out 0 _ rfl w6 (HB5.out.trans (hb6.mono HB5.out.size))
                              clear hb6
                              go_wp2_with (at_mapUpdate; refine wpList_mapUpdate_own _ rfl _ _ _ 102 rfl 3 3 keyedI Tryd.underlying102 _ w.heap.size (k' + 1) D rfl HM6.out (by have := HLT.out.2.2; unfold maxLen; omega) _ _ _ rfl rfl HKY.out _ [] (plainElem_int Tryd.underlying3 (by first | decide | (have := HLT.out.2.2; simp [Lit.wf, IntKind.min, IntKind.max, IntKind.signed, IntKind.bits]; omega))) ?_; intro w7 hown7 hgrow7)
                              go_roundw
                              case rel => exact ⟨k' + 1 + 1, by have := HLT.out.2.2; omega, by go_num, rt_step (q := ⟨⟨ct, ci, ⟨ok, okey, oval, oold⟩, cb, ce, cd, ⟨re, rh, rd, rv, rn, rp⟩⟩, .slice PA rp.length pcap⟩) HM6.out HSY.out HQ.out HGO.out HG.out (Nat.le_refl _) (HB05.out.trans (B6.out.mono HB05.out.size)) (by push_cast; exact hown7) hgrow7⟩
                              case measure => have := HLT.out.2.2; simp [intOf]; omega
                          | false =>
                            as_aux_lemma =>
                              have HG := Lib.hid (show goes l (k' + 1) ⟨ct, ci, ⟨ok, okey, oval, oold⟩, cb, ce, cd, ⟨re, rh, rd, rv, rn, rp⟩⟩ = false from (goes_some HAB.out HLO.out HQL.out HBG.out).trans (by rw [HBB.out]; simp))
                              refine wp_region_bel (by kernel_rfl) (by kernel_rfl) ?_
                              repeat (first | go_big_quiet_step ((go_at_call 22; exact CB.out _)) | quiet_step ((go_at_call 22; exact CB.out _)))
                              refine wpQuiet_nil ?_
                              intro w6 hw6
                              obtain ⟨⟨w6', hb6⟩, hw6'⟩ := hw6
                              dsimp only at hw6'
                              subst hw6'
                              have B6 := Lib.hid hb6
                              clear g0 k0 g1 k1 g2 k2 g3 k3 g4 k4 g5 k5 g6 k6 g7 k7 g8 k8 g9 k9 g10 k10 g11 k11 g12 k12 g13 k13 g14 k14 w1 hb6 b0 b1
                              go_wp2_with fail
                              go_ret
                              refine ⟨?_, HB05.out.trans (B6.out.mono HB05.out.size)⟩
                              have : rightM l = false := goesUp_no HQ.out HG.out HLT.out.2.2
                              rw [this]; rfl
                      · as_aux_lemma =>
                          have b0 : (ci == ji + 1) = false := by simpa using hci
                          have b1 : (ci != ji + 1) = true := by simpa using hci
                          have HG := Lib.hid (show goes l (k' + 1) ⟨ct, ci, ⟨ok, okey, oval, oold⟩, cb, ce, cd, ⟨re, rh, rd, rv, rn, rp⟩⟩ = false from (goes_some HAB.out HLO.out HQL.out HBG.out).trans (by simp [hci]))
                          clear hci
                          refine wp_region_bel (by kernel_rfl) (by kernel_rfl) ?_
                          repeat (first | go_big_quiet_step (fail) | quiet_step (fail))
                          refine wpQuiet_nil ?_
                          intro w6 hw6
                          obtain ⟨⟨w6', hb6⟩, hw6'⟩ := hw6
                          dsimp only at hw6'
                          subst hw6'
                          have B6 := Lib.hid hb6
                          clear g0 k0 g1 k1 g2 k2 g3 k3 g4 k4 g5 k5 g6 k6 g7 k7 g8 k8 g9 k9 g10 k10 g11 k11 g12 k12 g13 k13 g14 k14 w1 hb6 b0 b1
                          go_wp2_with fail
                          go_ret
                          refine ⟨?_, HB05.out.trans (B6.out.mono HB05.out.size)⟩
                          have : rightM l = false := goesUp_no HQ.out HG.out HLT.out.2.2
                          rw [this]; rfl
    · have hkk : k = l.length := by omega
      have HEND := Lib.hid (show rightM l = true by unfold rightM; rw [← hkk]; exact hgo)
      clear hkk hgo
      go_wp2_with fail
      go_ret
      refine ⟨?_, HB.out⟩
      rw [HEND.out]
      rfl
end Go.Proofs.YtdibkhddhgaghaaDoor.Hs
