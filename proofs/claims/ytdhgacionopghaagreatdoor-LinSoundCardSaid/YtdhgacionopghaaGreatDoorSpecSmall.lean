/- spec: the small functions' walks. -/
import Derived.Test.YtdhgacionopghaaGreatDoorSpecPure
import Derived.Test.YtdhgacionopghaaGreatDoorSpecPairs
import Derived.Laws.Cover3
namespace Go.Proofs.YtdhgacionopghaaGreatDoor.Sp
open Go.RowKit Go.Shelf Dc DcM DcW DcI DcR DcL
set_option linter.unusedVariables false

def opV (o : OpL) : Value := .agg #[.int .i64 o.kind, .string o.key, .string o.value, .string o.old]
def opC (o : OpL) : Array Value := #[.int .i64 o.kind, .string o.key, .string o.value, .string o.old]
def repC (r : Rep) (pv : Value) : Array Value := #[.int .i64 r.err, .bool r.had, .bool r.did, .string r.value, .int .i64 r.n, pv]

theorem bool_ret {a b : Bool} (h : a = b) : Ending.returned (.bool a) = .returned (.bool b) := by rw [h]
set_option maxHeartbeats 4000000 in
theorem long_spec (w : World) (kd : Int) (key value old : ByteArray) (h1 : key.size ≤ maxLen) (h2 : value.size ≤ maxLen) :
    Calls Tryz.prog 58 #[.agg #[.int .i64 kd, .string key, .string value, .string old]] w fun e w' => e = .returned (.bool (long ⟨kd, key, value, old⟩)) ∧ Below w.heap.size w w' := by
  have hb : Below w.heap.size w (w.alloc (.cells #[.int .i64 kd, .string key, .string value, .string old] 42)) := (Below.refl _ _).alloc (Nat.le_refl _) _
  have HB := Lib.hid hb
  clear hb
  unfold maxLen at h1 h2
  go_enter Tryz.func58, Tryz.ntmps58
  go_wp2
  all_goals go_ret
  all_goals refine ⟨bool_ret ?_, HB.out⟩
  all_goals try simp only [beq_iff_eq, beq_eq_false_iff_ne, ne_eq] at *
  all_goals (rw [Bool.eq_iff_iff]; simp only [long, Bool.or_eq_true, Bool.and_eq_true, decide_eq_true_eq, true_iff, false_iff, Bool.false_eq_true]; omega)
set_option maxHeartbeats 4000000 in
theorem long_ref (w : World) (kd : Int) (key value old : ByteArray) (h1 : key.size ≤ maxLen) (h2 : value.size ≤ maxLen) :
    Calls Tryz.prog 52 #[.agg #[.int .i64 kd, .string key, .string value, .string old]] w fun e w' => e = .returned (.bool (long ⟨kd, key, value, old⟩)) ∧ Below w.heap.size w w' := by
  have hb : Below w.heap.size w (w.alloc (.cells #[.int .i64 kd, .string key, .string value, .string old] 42)) := (Below.refl _ _).alloc (Nat.le_refl _) _
  have HB := Lib.hid hb
  clear hb
  unfold maxLen at h1 h2
  go_enter Tryz.func52, Tryz.ntmps52
  go_wp2
  all_goals go_ret
  all_goals refine ⟨bool_ret ?_, HB.out⟩
  all_goals try simp only [beq_iff_eq, beq_eq_false_iff_ne, ne_eq] at *
  all_goals (rw [Bool.eq_iff_iff]; simp only [long, Bool.or_eq_true, Bool.and_eq_true, decide_eq_true_eq, true_iff, false_iff, Bool.false_eq_true]; omega)

theorem cellsP_length (l : List Pr) : (cellsP l).length = l.length * 2 := by
  induction l with
  | nil => rfl
  | cons p t ih =>
    have e : cellsP (p :: t) = .string p.1 :: .string p.2 :: cellsP t := rfl
    rw [e, List.length_cons, List.length_cons, ih, List.length_cons]
    omega
theorem news_of {w : World} {a : Addr} {n cap : Nat} {l : List Pr} (h : Prs w (.slice (some a) n cap) l) : ∀ j u, (cellsP l)[j]? = some u → w.cell? (a.add j) = some u := by
  obtain ⟨A, cap', e, _, hc⟩ := h
  simp only [Value.slice.injEq] at e
  obtain ⟨rfl, rfl, rfl⟩ := e
  intro j u hj
  have hl := cellsP_length l
  have hjl := (List.getElem?_eq_some_iff.1 hj).1
  have hi : j / 2 < l.length := by omega
  obtain ⟨p, hp⟩ : ∃ p, l[j / 2]? = some p := ⟨_, List.getElem?_eq_getElem hi⟩
  obtain ⟨b, o, hA, c1, c2⟩ := hc _ _ hp
  obtain ⟨g1, g2⟩ := cellsP_get l _ p hp
  simp only [Option.some.injEq] at hA
  subst hA
  have ha : (⟨b, o, none⟩ : Addr).add j = ⟨b, o + j, none⟩ := by
    unfold Addr.add
    split
    · rename_i hz; rw [hz]; rfl
    · rfl
  rw [ha]
  rcases Nat.mod_two_eq_zero_or_one j with hm | hm
  · have e : j / 2 * 2 = j := by omega
    rw [e] at g1 c1
    rw [c1, ← g1, hj]
  · have e : j / 2 * 2 + 1 = j := by omega
    rw [e] at g2
    rw [show o + j / 2 * 2 + 1 = o + j by omega] at c2
    rw [c2, ← g2, hj]
set_option maxHeartbeats 4000000 in
theorem clone_any (w : World) (v : Value) (l : List Pr) (h : Prs w v l) (hn : l.length < 1000000) :
    Calls Tryz.prog 46 #[v] w fun e w' => ∃ v', e = .returned v' ∧ w'.ownsRow w.heap.size 74 2 v' l.length (cellsP l) ∧ Below w.heap.size w w' := by
  have hq : ∀ (w : World) (a : Option Addr) (n c n' c' : Nat), (binOp .eql 38 (.slice a n c) (.slice none n' c')).run Tryz.prog w = .ok (.bool a.isNone) w := fun w a n c n' c' => Lib.run_eql_slice_nil w _ _ a n c n' c' Tryz.underlying38
  obtain ⟨i0, hi, hz0, hz1, hz2⟩ := info_parts infoP
  have h' := h
  obtain ⟨A, cap, rfl, hcap, hc⟩ := h
  cases A with
  | none =>
    have hl : l = [] := by
      match l, hc with
      | [], _ => rfl
      | p :: t, hc =>
        obtain ⟨b, o, e, _⟩ := hc 0 p rfl
        cases e
    subst hl
    clear hc h'
    go_enter Tryz.func46, Tryz.ntmps46
    go_wp2
    go_ret
    exact ⟨_, rfl, World.ownsRow_nil _ _ _ _, Below.refl _ _⟩
  | some a =>
    have hnews := news_of h'
    have HC := Lib.hid hc
    have hlen := cellsP_length l
    have hone : ∀ u ∈ cellsP l, u.oneCell' = true := by
      intro u hu
      obtain ⟨p, _, hp⟩ := List.mem_flatMap.1 hu
      simp at hp
      rcases hp with rfl | rfl <;> rfl
    have hrow0 : (w.alloc (.cells #[] 74)).ownsRow w.heap.size 74 2 (.slice (some ⟨w.heap.size, 0, none⟩) 0 0) 0 [] := by
      have := World.ownsRow_lit (base := w.heap.size) (e := 74) (size := 2) w #[] 0 (Nat.le_refl _) (by decide) rfl
      simpa using this
    have hnews' : ∀ j u, (cellsP l)[j]? = some u → (w.alloc (.cells #[] 74)).cell? (a.add j) = some u := fun j u hj => Lib.cell?_alloc_some _ (hnews j u hj)
    have HN := Lib.hid hnews'
    clear hc h' hnews hnews'
    go_enter Tryz.func46, Tryz.ntmps46
    go_wp2_with (at_builtin; refine wpList_append_own _ rfl _ _ 38 rfl w.heap.size 74 i0 (.agg #[.string ⟨#[]⟩, .string ⟨#[]⟩]) 2 32 Tryz.underlying38 hi hz0 hz1 hz2 rfl (by decide) _ _ _ rfl hrow0 a l.length cap (cellsP l) rfl hlen HN.out hone (by simp [maxLen]; omega) (by omega) (by simp) ?_; intro v' w1 hown' hgrow hnil; have HN1 := Lib.hid hnil; have HG := Lib.hid hgrow; have HO := Lib.hid hown'; clear hnil hgrow hown')
    go_ret
    have ho := HO.out
    rw [Nat.zero_add, List.nil_append] at ho
    exact ⟨_, rfl, ho, ((Below.refl _ w).alloc (Nat.le_refl _) _).grown HG.out (by simp) (fun g hg => (World.ownsRow.lt hrow0 g hg).1)⟩
set_option maxRecDepth 100000 in
set_option maxHeartbeats 8000000 in
theorem equal_any (w : World) (v u : Value) (l m : List Pr) (h : Prs w v l) (h' : Prs w u m) (hn : l.length < 1000000) :
    Calls Tryz.prog 62 #[v, u] w fun e w' => e = .returned (.bool (decide (l = m))) ∧ ∃ n, w' = w.drewN n := by
  obtain ⟨A, cap, rfl, _, hc⟩ := h
  obtain ⟨A', cap', rfl, _, hc'⟩ := h'
  have HC := Lib.hid hc
  have HC' := Lib.hid hc'
  clear hc hc'
  by_cases hl : l.length = m.length
  · rw [← hl]
    go_enter Tryz.func62, Tryz.ntmps62
    go_wp2
    go_loopw [13] (fun i wr => ∃ k : Nat, k ≤ l.length ∧ i = .int .i64 k ∧ l.take k = m.take k ∧ ∃ n, wr = w.drewN n) (fun i _ => l.length - (intOf i).toNat)
    case atStart => exact ⟨0, by omega, rfl, rfl, 0, rfl⟩
    case round =>
      obtain ⟨k, hk, rfl, hs, n, rfl⟩ := hrel
      have HS := Lib.hid hs
      clear hs
      by_cases hp : k < l.length
      · obtain ⟨p, hp2⟩ : ∃ p, l[k]? = some p := ⟨_, List.getElem?_eq_getElem (by omega)⟩
        obtain ⟨q, hq2⟩ : ∃ p, m[k]? = some p := ⟨_, List.getElem?_eq_getElem (by omega)⟩
        obtain ⟨b, o, rfl, c1, c2⟩ := HC.out k p hp2
        obtain ⟨b', o', rfl, d1, d2⟩ := HC'.out k q hq2
        have HP := Lib.hid hp2
        have HQ := Lib.hid hq2
        clear hp2 hq2
        by_cases he : p = q
        · have hnq : ∀ w, (binOp .neq 74 (.agg #[.string p.1, .string p.2]) (.agg #[.string q.1, .string q.2])).run Tryz.prog w = .ok (.bool false) w := fun w => by rw [pair_neq, decide_eq_true he]; rfl
          have HE := Lib.hid he
          clear he
          go_wp2
          go_quiet (fail)
          go_wp2
          refine ⟨⟨k + 1, by omega, by go_num, ?_, n + nq, rfl⟩, by show l.length - ((k : Int) + 1).toNat < l.length - (k : Int).toNat; omega⟩
          rw [take_hit HP.out, take_hit HQ.out, HS.out, HE.out]
        · have hnq : ∀ w, (binOp .neq 74 (.agg #[.string p.1, .string p.2]) (.agg #[.string q.1, .string q.2])).run Tryz.prog w = .ok (.bool true) w := fun w => by rw [pair_neq, decide_eq_false he]; rfl
          have HE := Lib.hid he
          clear he
          go_wp2
          go_quiet (fail)
          go_wp2
          go_ret
          refine ⟨?_, n + nq, World.drewN_drewN _ _ _⟩
          have hne : l ≠ m := fun e => HE.out (by
            have h1 := HP.out
            rw [e, HQ.out] at h1
            exact (Option.some.inj h1).symm)
          rw [decide_eq_false hne]; rfl
      · go_wp2
        go_ret
        have := HS.out
        rw [List.take_of_length_le (by omega), List.take_of_length_le (by omega)] at this
        exact ⟨by rw [decide_eq_true this]; rfl, n, rfl⟩
  · have hb : ((l.length : Int) == (m.length : Int)) = false := by rw [beq_eq_false_iff_ne]; omega
    have hne : l ≠ m := fun e => hl (by rw [e])
    have HN := Lib.hid hne
    clear hne
    go_enter Tryz.func62, Tryz.ntmps62
    go_wp2
    go_ret
    exact ⟨by rw [decide_eq_false HN.out]; rfl, 0, rfl⟩
set_option maxHeartbeats 8000000 in
set_option maxRecDepth 100000 in
theorem same_spec (w : World) (a b : Rep) (pa pb : Value) (ha : Prs w pa a.pairs) (hb : Prs w pb b.pairs) (hl : a.pairs.length < 1000000) :
    Calls Tryz.prog 45 #[.agg (repC a pa), .agg (repC b pb)] w fun e w' => e = .returned (.bool (sameR a b)) ∧ Below w.heap.size w w' := by
  obtain ⟨ae, ah, ad, av, an, ap⟩ := a
  obtain ⟨be, bh, bd, bv, bn, bp⟩ := b
  unfold repC
  by_cases h0 : ae = be ∧ ah = bh ∧ ad = bd ∧ av = bv ∧ an = bn
  · obtain ⟨rfl, rfl, rfl, rfl, rfl⟩ := h0
    have hw : Below w.heap.size w ((w.alloc (.cells #[.int .i64 ae, .bool ah, .bool ad, .string av, .int .i64 an, pa] 40)).alloc (.cells #[.int .i64 ae, .bool ah, .bool ad, .string av, .int .i64 an, pb] 40)) := ((Below.refl _ _).alloc (Nat.le_refl _) _).alloc (by simp) _
    have HA := Lib.hid (ha.below hw)
    have HB := Lib.hid (hb.below hw)
    have HW := Lib.hid hw
    dsimp only at HA HB hl
    clear ha hb hw
    have HS := Lib.hid (show sameR ⟨ae, ah, ad, av, an, ap⟩ ⟨ae, ah, ad, av, an, bp⟩ = decide (ap = bp) by simp [sameR])
    rw [HS.out]
    go_enter Tryz.func45, Tryz.ntmps45
    go_wp2_with fail
    refine (equal_any _ _ _ _ _ HA.out HB.out hl).mono ?_
    rintro e w' ⟨rfl, n, rfl⟩
    go_wp2
    go_ret
    exact ⟨rfl, dn HW.out n⟩
  · have hw : Below w.heap.size w ((w.alloc (.cells #[.int .i64 ae, .bool ah, .bool ad, .string av, .int .i64 an, pa] 40)).alloc (.cells #[.int .i64 be, .bool bh, .bool bd, .string bv, .int .i64 bn, pb] 40)) := ((Below.refl _ _).alloc (Nat.le_refl _) _).alloc (by simp) _
    have HW := Lib.hid hw
    have HS := Lib.hid (show sameR ⟨ae, ah, ad, av, an, ap⟩ ⟨be, bh, bd, bv, bn, bp⟩ = false by
      rw [← Bool.not_eq_true]
      intro h
      simp only [sameR, Bool.and_eq_true, decide_eq_true_eq] at h
      exact h0 ⟨h.1.1.1.1.1, h.1.1.1.1.2, h.1.1.1.2, h.1.1.2, h.1.2⟩)
    have H0 := Lib.hid h0
    rw [HS.out]
    clear ha hb hw h0
    go_enter Tryz.func45, Tryz.ntmps45
    go_wp2_with fail
    case isTrue =>
      rename_i g0 g1 g2 g3 g4 _ _
      exact absurd ⟨g0, g1, g2, data_inj (by rw [← Lib.toList_data, ← Lib.toList_data, g3]), g4⟩ H0.out
    all_goals go_ret
    all_goals exact ⟨rfl, ((Below.refl _ _).alloc (Nat.le_refl _) _).alloc (by simp) _⟩
set_option maxHeartbeats 8000000 in
set_option maxRecDepth 100000 in
theorem sameR_ref (w : World) (a b : Rep) (pa pb : Value) (ha : Prs w pa a.pairs) (hb : Prs w pb b.pairs) (hl : a.pairs.length < 1000000) :
    Calls Tryz.prog 42 #[.agg (repC a pa), .agg (repC b pb)] w fun e w' => e = .returned (.bool (sameR a b)) ∧ Below w.heap.size w w' := by
  obtain ⟨ae, ah, ad, av, an, ap⟩ := a
  obtain ⟨be, bh, bd, bv, bn, bp⟩ := b
  unfold repC
  by_cases h0 : ae = be ∧ ah = bh ∧ ad = bd ∧ av = bv ∧ an = bn
  · obtain ⟨rfl, rfl, rfl, rfl, rfl⟩ := h0
    have hw : Below w.heap.size w ((w.alloc (.cells #[.int .i64 ae, .bool ah, .bool ad, .string av, .int .i64 an, pa] 40)).alloc (.cells #[.int .i64 ae, .bool ah, .bool ad, .string av, .int .i64 an, pb] 40)) := ((Below.refl _ _).alloc (Nat.le_refl _) _).alloc (by simp) _
    have HA := Lib.hid (ha.below hw)
    have HB := Lib.hid (hb.below hw)
    have HW := Lib.hid hw
    dsimp only at HA HB hl
    clear ha hb hw
    have HS := Lib.hid (show sameR ⟨ae, ah, ad, av, an, ap⟩ ⟨ae, ah, ad, av, an, bp⟩ = decide (ap = bp) by simp [sameR])
    rw [HS.out]
    go_enter Tryz.func42, Tryz.ntmps42
    go_wp2_with fail
    refine (same_ref _ _ _ _ _ HA.out HB.out hl).mono ?_
    rintro e w' ⟨rfl, n, rfl⟩
    go_wp2
    go_ret
    exact ⟨rfl, dn HW.out n⟩
  · have hw : Below w.heap.size w ((w.alloc (.cells #[.int .i64 ae, .bool ah, .bool ad, .string av, .int .i64 an, pa] 40)).alloc (.cells #[.int .i64 be, .bool bh, .bool bd, .string bv, .int .i64 bn, pb] 40)) := ((Below.refl _ _).alloc (Nat.le_refl _) _).alloc (by simp) _
    have HW := Lib.hid hw
    have HS := Lib.hid (show sameR ⟨ae, ah, ad, av, an, ap⟩ ⟨be, bh, bd, bv, bn, bp⟩ = false by
      rw [← Bool.not_eq_true]
      intro h
      simp only [sameR, Bool.and_eq_true, decide_eq_true_eq] at h
      exact h0 ⟨h.1.1.1.1.1, h.1.1.1.1.2, h.1.1.1.2, h.1.1.2, h.1.2⟩)
    have H0 := Lib.hid h0
    rw [HS.out]
    clear ha hb hw h0
    go_enter Tryz.func42, Tryz.ntmps42
    go_wp2_with fail
    case isTrue =>
      rename_i g0 g1 g2 g3 g4 _ _
      exact absurd ⟨g0, g1, g2, data_inj (by rw [← Lib.toList_data, ← Lib.toList_data, g3]), g4⟩ H0.out
    all_goals go_ret
    all_goals exact ⟨rfl, ((Below.refl _ _).alloc (Nat.le_refl _) _).alloc (by simp) _⟩
end Go.Proofs.YtdhgacionopghaaGreatDoor.Sp
