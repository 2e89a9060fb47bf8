/- dict: the reference's functions on lists of pairs, as they lie in a world. -/
import Derived.Test.YtdenkbdagbmddaaDictCells
import Derived.Deep.AppendLies
import Derived.Laws.StructEq
namespace Go.Proofs.Ytdenkbdagbmddaa.DcR
open Go.RowKit Go.Shelf Dc DcM DcW DcI
set_option linter.unusedVariables false

/-! ### lists of pairs in a world -/
/-- A slice of pairs lies in w. -/
def Prs (w : World) (v : Value) (l : List Pr) : Prop := ∃ (A : Option Addr) (cap : Nat), v = .slice A l.length cap ∧ l.length ≤ cap ∧
  ∀ j p, l[j]? = some p → ∃ b o, A = some ⟨b, o, none⟩ ∧ w.cell? ⟨b, o + j * 2, none⟩ = some (.string p.1) ∧ w.cell? ⟨b, o + j * 2 + 1, none⟩ = some (.string p.2)
theorem cellsP_get : ∀ (l : List Pr) (j : Nat) (p : Pr), l[j]? = some p → (cellsP l)[j * 2]? = some (.string p.1) ∧ (cellsP l)[j * 2 + 1]? = some (.string p.2)
  | [], j, p, h => by simp at h
  | q :: t, 0, p, h => by
    simp at h
    subst h
    simp [cellsP]
  | q :: t, j + 1, p, h => by
    have e : cellsP (q :: t) = .string q.1 :: .string q.2 :: cellsP t := rfl
    have := cellsP_get t j p (by simpa using h)
    rw [e, show (j + 1) * 2 = j * 2 + 1 + 1 by omega]
    simp only [List.getElem?_cons_succ]
    exact this
theorem add0 (g j : Nat) : (⟨g, 0, none⟩ : Addr).add j = ⟨g, j, none⟩ := by unfold Addr.add; split <;> simp_all
theorem Prs.of_owns {w : World} {base : Nat} {e : TypeId} {v : Value} {l : List Pr} (h : w.ownsRow base e 2 v l.length (cellsP l)) : Prs w v l := by
  obtain ⟨_, ⟨rfl, hz⟩ | ⟨g, cap, cur, rfl, hg, hh, hc, _⟩⟩ := id h
  · have : l = [] := List.length_eq_zero_iff.1 hz
    subst this
    exact ⟨none, 0, rfl, Nat.le_refl _, fun j p hj => by simp at hj⟩
  · refine ⟨some ⟨g, 0, none⟩, cap, rfl, hc, fun j p hj => ⟨g, 0, rfl, ?_, ?_⟩⟩
    · rw [Nat.zero_add, ← add0]; exact h.cells (g := g) rfl _ _ (cellsP_get l j p hj).1
    · rw [Nat.zero_add, ← add0]; exact h.cells (g := g) rfl _ _ (cellsP_get l j p hj).2
theorem Prs.kept {w w' : World} {v : Value} {l : List Pr} (h : Prs w v l) (hb : ∀ k, v.ownBlock = some k → k < w.heap.size → w'.heap[k]? = w.heap[k]?) : Prs w' v l := by
  obtain ⟨A, cap, rfl, hcap, hc⟩ := h
  refine ⟨A, cap, rfl, hcap, fun j p hj => ?_⟩
  obtain ⟨b, o, rfl, c1, c2⟩ := hc j p hj
  have hl : b < w.heap.size := World.block_lt_of_cell? w _ c1
  have hk := hb b rfl hl
  exact ⟨b, o, rfl, (World.cell?_of_block hk).trans c1, (World.cell?_of_block hk).trans c2⟩
theorem Prs.below {w w' : World} {v : Value} {l : List Pr} (h : Prs w v l) (hb : Below w.heap.size w w') : Prs w' v l := h.kept fun k _ hk => hb.block k hk

/-! ### what the reference tells, on lists -/
theorem take_hit {l : List Pr} {k : Nat} {p : Pr} (h : l[k]? = some p) : l.take (k + 1) = l.take k ++ [p] := by
  rw [List.take_add_one, h]; rfl
theorem at_miss {l : List Pr} {key : ByteArray} {k : Nat} {p : Pr} (h : l[k]? = some p) (ha : at_ key (l.take k) = []) (hp : p.1 ≠ key) : at_ key (l.take (k + 1)) = [] := by
  unfold at_ at *
  rw [take_hit h, List.filter_append, ha, List.filter_cons_of_neg (by simpa using hp)]; rfl
theorem dget_hit {l : List Pr} {key : ByteArray} {k : Nat} {p : Pr} (h : l[k]? = some p) (ha : at_ key (l.take k) = []) (hp : p.1 = key) : dget l key = (p.2, true) := by
  have hl : l = l.take k ++ p :: l.drop (k + 1) := by
    have hk := (List.getElem?_eq_some_iff.1 h).1
    have hd := List.drop_eq_getElem_cons hk
    rw [(List.getElem?_eq_some_iff.1 h).2] at hd
    rw [← hd, List.take_append_drop]
  unfold dget
  have e : at_ key l = p :: at_ key (l.drop (k + 1)) := by
    unfold at_ at *
    conv => lhs; rw [hl]
    rw [List.filter_append, ha, List.filter_cons_of_pos (by simpa using hp)]; rfl
  rw [e]
theorem dget_none {l : List Pr} {key : ByteArray} (ha : at_ key l = []) : dget l key = (⟨#[]⟩, false) := by unfold dget; rw [ha]
/-- The list without a key. -/
def rdel (l : List Pr) (key : ByteArray) : List Pr := l.filter fun p => !decide (p.1 = key)
/-- The list with a pair ahead of the first greater key. -/
def ins (key v : ByteArray) : List Pr → List Pr
  | [] => [(key, v)]
  | p :: t => if lt key p.1 then (key, v) :: p :: t else p :: ins key v t
theorem ins_length (key v : ByteArray) : ∀ l : List Pr, (ins key v l).length = l.length + 1
  | [] => rfl
  | p :: t => by
    unfold ins
    split
    · rfl
    · simp [ins_length key v t]
theorem rdel_sorted {l : List Pr} {key : ByteArray} (h : Sorted l) : rdel l key = del l key := by
  unfold rdel
  conv => lhs; rw [split (k := key) h]
  unfold del
  rw [List.filter_append, List.filter_append]
  have h1 : (below key l).filter (fun p => !decide (p.1 = key)) = below key l := List.filter_eq_self.2 fun p hp => by simpa using lt_ne (below_mem hp)
  have h2 : (above key l).filter (fun p => !decide (p.1 = key)) = above key l := List.filter_eq_self.2 fun p hp => by simpa using (lt_ne (above_mem hp)).symm
  have h3 : (at_ key l).filter (fun p => !decide (p.1 = key)) = [] := List.filter_eq_nil_iff.2 fun p hp => by
    have := (List.mem_filter.1 hp).2
    simpa using this
  rw [h1, h2, h3]; rfl
theorem ins_below (key v : ByteArray) : ∀ (a b : List Pr), (∀ p ∈ a, lt p.1 key = true) → ins key v (a ++ b) = a ++ ins key v b
  | [], b, _ => rfl
  | p :: t, b, h => by
    have hp := h p List.mem_cons_self
    show (if lt key p.1 then (key, v) :: p :: (t ++ b) else p :: ins key v (t ++ b)) = p :: (t ++ ins key v b)
    rw [lt_asymm hp, ins_below key v t b fun q hq => h q (List.mem_cons_of_mem _ hq)]
    rfl
theorem ins_above (key v : ByteArray) (b : List Pr) (h : ∀ p ∈ b, lt key p.1 = true) : ins key v b = (key, v) :: b := by
  match b with
  | [] => rfl
  | p :: t => unfold ins; rw [h p List.mem_cons_self]; rfl
theorem ins_rdel {l : List Pr} {key v : ByteArray} (h : Sorted l) : ins key v (rdel l key) = put l key v := by
  rw [rdel_sorted h]
  unfold del put
  rw [ins_below _ _ _ _ fun p hp => below_mem hp, ins_above _ _ _ fun p hp => above_mem hp]
/-- Do the keys rise? -/
theorem sorted_snoc {l : List Pr} {k : Nat} {p q : Pr} (hs : Sorted (l.take (k + 1))) (hp : l[k]? = some p) (hq : l[k + 1]? = some q) (h : lt p.1 q.1 = true) : Sorted (l.take (k + 1 + 1)) := by
  rw [take_hit hq]
  rw [take_hit hp] at hs ⊢
  refine List.pairwise_append.2 ⟨hs, by simp, fun a ha b hb => ?_⟩
  obtain rfl : b = q := by simpa using hb
  rcases List.mem_append.1 ha with ha | ha
  · exact lt_trans ((List.pairwise_append.1 hs).2.2 a ha p (by simp)) h
  · obtain rfl : a = p := by simpa using ha
    exact h
theorem not_sorted {l : List Pr} {k : Nat} {p q : Pr} (hp : l[k]? = some p) (hq : l[k + 1]? = some q) (h : lt p.1 q.1 = false) : ¬ Sorted l := fun hs => by
  obtain ⟨h1, e1⟩ := List.getElem?_eq_some_iff.1 hp
  obtain ⟨h2, e2⟩ := List.getElem?_eq_some_iff.1 hq
  have := List.pairwise_iff_getElem.1 hs k (k + 1) h1 h2 (by omega)
  rw [e1, e2, h] at this
  cases this

/-! ### the walks -/
theorem pair_eq (a b c d : ByteArray) (w : World) : (Op.equalIn 10000 24 (.agg #[.string a, .string b]) (.agg #[.string c, .string d])).run Try.prog w = .ok (a.toList == c.toList && b.toList == d.toList) w := by
  have u9 := Try.underlying9
  rw [run_equalIn_agg _ _ _ _ _ (by kernel_rfl) (by kernel_rfl)]
  simp only [Program.fieldsOf, Try.underlying24]
  go_simp
  by_cases h1 : a.toList = c.toList <;> by_cases h2 : b.toList = d.toList <;> simp [h1, h2]
theorem pair_neq (a b c d : ByteArray) (w : World) : (binOp .neq 24 (.agg #[.string a, .string b]) (.agg #[.string c, .string d])).run Try.prog w = .ok (.bool (!decide ((a, b) = (c, d)))) w := by
  rw [run_neq_struct, pair_eq]
  simp only [Result.andThen_ok, beq_lists, Prod.mk.injEq]
  by_cases h : a = c <;> by_cases g : b = d <;> simp [h, g]
set_option maxHeartbeats 4000000 in
theorem get_ref (w : World) (v : Value) (l : List Pr) (key : ByteArray) (h : Prs w v l) (hn : l.length < 1000000) :
    Calls Try.prog 12 #[v, .string key] w fun e w' => e = .returned (.tuple #[.string (dget l key).1, .bool (dget l key).2]) ∧ w' = w := by
  obtain ⟨A, cap, rfl, _, hc⟩ := h
  have HC := Lib.hid hc
  clear hc
  go_enter Try.func12, Try.ntmps12
  go_wp2
  go_loopw [6] (fun i wr => ∃ k : Nat, k ≤ l.length ∧ i = .int .i64 k ∧ at_ key (l.take k) = [] ∧ wr = w) (fun i _ => l.length - (intOf i).toNat)
  case atStart => exact ⟨0, by omega, rfl, rfl, rfl⟩
  case round =>
    obtain ⟨k, hk, rfl, hat, rfl⟩ := hrel
    have HAT := Lib.hid hat
    clear hat
    by_cases hp : k < l.length
    · obtain ⟨p, hp2⟩ : ∃ p, l[k]? = some p := ⟨_, List.getElem?_eq_getElem hp⟩
      obtain ⟨b, o, rfl, c1, c2⟩ := HC.out k p hp2
      have HP := Lib.hid hp2
      clear hp2
      by_cases he : p.1 = key
      · have hb : (p.1.toList == key.toList) = true := by rw [he]; exact beq_self_eq_true _
        have HE := Lib.hid he
        clear he
        go_wp2
        go_ret2
        exact ⟨by rw [dget_hit HP.out HAT.out HE.out]; rfl, rfl⟩
      · have hb : (p.1.toList == key.toList) = false := by rw [beq_lists, decide_eq_false he]
        have HE := Lib.hid he
        clear he
        go_wp2
        exact ⟨⟨k + 1, by omega, by go_num, at_miss HP.out HAT.out HE.out, trivial⟩, by show l.length - ((k : Int) + 1).toNat < l.length - (k : Int).toNat; omega⟩
    · have hkk : k = l.length := by omega
      go_wp2
      go_ret2
      have := HAT.out
      rw [hkk, List.take_length] at this
      exact ⟨by rw [dget_none this]; rfl, rfl⟩

theorem row_base {w : World} {b b' : Nat} {e : TypeId} {size n : Nat} {v : Value} {xs : List Value} (h : w.ownsRow b e size v n xs) (hb : b' ≤ b) : w.ownsRow b' e size v n xs := by
  obtain ⟨h0, h1 | ⟨g, cap, cur, h2, h3, h4⟩⟩ := h
  · exact ⟨h0, Or.inl h1⟩
  · exact ⟨h0, Or.inr ⟨g, cap, cur, h2, Nat.le_trans hb h3, h4⟩⟩
theorem rdel_snoc {l : List Pr} {key : ByteArray} {k : Nat} {p : Pr} (h : l[k]? = some p) : rdel (l.take (k + 1)) key = rdel (l.take k) key ++ (if p.1 = key then [] else [p]) := by
  unfold rdel
  rw [take_hit h, List.filter_append]
  congr 1
  by_cases e : p.1 = key
  · simp [e]
  · simp [e]
theorem rdel_length_le (l : List Pr) (key : ByteArray) : (rdel l key).length ≤ l.length := List.length_filter_le _ _

theorem ins_step (key v : ByteArray) {r out : List Pr} {k : Nat} {p : Pr} (hp : r[k]? = some p) (h : ins key v r = out ++ ins key v (r.drop k)) :
    (lt key p.1 = true → ins key v r = (out ++ [(key, v)] ++ [p]) ++ r.drop (k + 1)) ∧ (lt key p.1 = false → ins key v r = (out ++ [p]) ++ ins key v (r.drop (k + 1))) := by
  obtain ⟨hk, e⟩ := List.getElem?_eq_some_iff.1 hp
  have hd := List.drop_eq_getElem_cons hk
  rw [e] at hd
  rw [hd] at h
  constructor
  · intro hl
    rw [h]; unfold ins; rw [if_pos hl]; simp
  · intro hl
    rw [h]; conv => lhs; unfold ins
    rw [hl]; simp
theorem drop_step {r out : List Pr} {k : Nat} {p : Pr} {x : List Pr} (hp : r[k]? = some p) (h : x = out ++ r.drop k) : x = (out ++ [p]) ++ r.drop (k + 1) := by
  obtain ⟨hk, e⟩ := List.getElem?_eq_some_iff.1 hp
  have hd := List.drop_eq_getElem_cons hk
  rw [e] at hd
  rw [h, hd]; simp

set_option maxRecDepth 100000 in
set_option maxHeartbeats 8000000 in
theorem right_ref (w : World) (v : Value) (l : List Pr) (h : Prs w v l) (hn : l.length < 1000000) :
    Calls Try.prog 8 #[v] w fun e w' => (∃ b : Bool, e = .returned (.bool b) ∧ (b = true ↔ Sorted l)) ∧ ∃ n, w' = w.drewN n := by
  obtain ⟨A, cap, rfl, _, hc⟩ := h
  have HC := Lib.hid hc
  clear hc
  go_enter Try.func8, Try.ntmps8
  go_wp2
  go_loopw [3] (fun i wr => ∃ k : Nat, (k ≤ l.length ∨ k = 0) ∧ i = .int .i64 ((k : Int) + 1) ∧ Sorted (l.take (k + 1)) ∧ ∃ n, wr = w.drewN n) (fun i _ => l.length + 1 - (intOf i).toNat)
  case atStart =>
    refine ⟨0, Or.inr rfl, rfl, ?_, 0, rfl⟩
    match l with
    | [] => exact List.Pairwise.nil
    | p :: t => exact List.pairwise_singleton _ _
  case round =>
    obtain ⟨k, hk, rfl, hs, n, rfl⟩ := hrel
    have HS := Lib.hid hs
    clear hs
    by_cases hp : k + 1 < l.length
    · obtain ⟨p, hp2⟩ : ∃ p, l[k]? = some p := ⟨_, List.getElem?_eq_getElem (by omega)⟩
      obtain ⟨q, hq2⟩ : ∃ p, l[k + 1]? = some p := ⟨_, List.getElem?_eq_getElem hp⟩
      obtain ⟨b, o, rfl, c1, c2⟩ := HC.out k p hp2
      obtain ⟨b', o', hb', d1, d2⟩ := HC.out (k + 1) q hq2
      obtain ⟨rfl, rfl⟩ : b = b' ∧ o = o' := by simpa using hb'
      have HP := Lib.hid hp2
      have HQ := Lib.hid hq2
      clear hp2 hq2 c2 d2 hb'
      have HPQ := Lib.hid hp
      cases hlt : lt p.1 q.1 with
      | true =>
        have hb : Op.bytesLess p.1.toList q.1.toList = true := hlt
        have HL := Lib.hid hlt
        clear hlt
        go_wp2
        go_quiet (fail)
        go_wp2
        refine ⟨⟨k + 1, by omega, by go_num, sorted_snoc HS.out HP.out HQ.out HL.out, n + nq, rfl⟩, ?_⟩
        show l.length + 1 - ((k : Int) + 1 + 1).toNat < l.length + 1 - ((k : Int) + 1).toNat
        omega
      | false =>
        have hb : Op.bytesLess p.1.toList q.1.toList = false := hlt
        have HL := Lib.hid hlt
        clear hlt
        go_wp2
        go_quiet (fail)
        go_wp2
        go_ret
        exact ⟨⟨false, rfl, ⟨fun h => (by simp at h), fun h => absurd h (not_sorted HP.out HQ.out HL.out)⟩⟩, n + nq, World.drewN_drewN _ _ _⟩
    · go_wp2
      go_ret
      refine ⟨⟨true, rfl, fun _ => ?_, fun _ => rfl⟩, n, rfl⟩
      have := HS.out
      rwa [List.take_of_length_le (by omega)] at this
set_option maxRecDepth 100000 in
set_option maxHeartbeats 8000000 in
theorem same_ref (w : World) (v u : Value) (l m : List Pr) (h : Prs w v l) (h' : Prs w u m) (hn : l.length < 1000000) :
    Calls Try.prog 9 #[v, u] w fun e w' => e = .returned (.bool (decide (l = m))) ∧ ∃ n, w' = w.drewN n := by
  obtain ⟨A, cap, rfl, _, hc⟩ := h
  obtain ⟨A', cap', rfl, _, hc'⟩ := h'
  have HC := Lib.hid hc
  have HC' := Lib.hid hc'
  clear hc hc'
  by_cases hl : l.length = m.length
  · rw [← hl]
    go_enter Try.func9, Try.ntmps9
    go_wp2
    go_loopw [5] (fun i wr => ∃ k : Nat, k ≤ l.length ∧ i = .int .i64 k ∧ l.take k = m.take k ∧ ∃ n, wr = w.drewN n) (fun i _ => l.length - (intOf i).toNat)
    case atStart => exact ⟨0, by omega, rfl, rfl, 0, rfl⟩
    case round =>
      obtain ⟨k, hk, rfl, hs, n, rfl⟩ := hrel
      have HS := Lib.hid hs
      clear hs
      by_cases hp : k < l.length
      · obtain ⟨p, hp2⟩ : ∃ p, l[k]? = some p := ⟨_, List.getElem?_eq_getElem (by omega)⟩
        obtain ⟨q, hq2⟩ : ∃ p, m[k]? = some p := ⟨_, List.getElem?_eq_getElem (by omega)⟩
        obtain ⟨b, o, rfl, c1, c2⟩ := HC.out k p hp2
        obtain ⟨b', o', rfl, d1, d2⟩ := HC'.out k q hq2
        have HP := Lib.hid hp2
        have HQ := Lib.hid hq2
        clear hp2 hq2
        by_cases he : p = q
        · have hnq : ∀ w, (binOp .neq 24 (.agg #[.string p.1, .string p.2]) (.agg #[.string q.1, .string q.2])).run Try.prog w = .ok (.bool false) w := fun w => by rw [pair_neq, decide_eq_true he]; rfl
          have HE := Lib.hid he
          clear he
          go_wp2
          go_quiet (fail)
          go_wp2
          refine ⟨⟨k + 1, by omega, by go_num, ?_, n + nq, rfl⟩, by show l.length - ((k : Int) + 1).toNat < l.length - (k : Int).toNat; omega⟩
          rw [take_hit HP.out, take_hit HQ.out, HS.out, HE.out]
        · have hnq : ∀ w, (binOp .neq 24 (.agg #[.string p.1, .string p.2]) (.agg #[.string q.1, .string q.2])).run Try.prog w = .ok (.bool true) w := fun w => by rw [pair_neq, decide_eq_false he]; rfl
          have HE := Lib.hid he
          clear he
          go_wp2
          go_quiet (fail)
          go_wp2
          go_ret
          refine ⟨?_, n + nq, World.drewN_drewN _ _ _⟩
          have hne : l ≠ m := fun e => HE.out (by
            have h1 := HP.out
            rw [e, HQ.out] at h1
            exact (Option.some.inj h1).symm)
          rw [decide_eq_false hne]; rfl
      · go_wp2
        go_ret
        have := HS.out
        rw [List.take_of_length_le (by omega), List.take_of_length_le (by omega)] at this
        exact ⟨by rw [decide_eq_true this]; rfl, n, rfl⟩
  · have hb : ((l.length : Int) == (m.length : Int)) = false := by rw [beq_eq_false_iff_ne]; omega
    have hne : l ≠ m := fun e => hl (by rw [e])
    have HN := Lib.hid hne
    clear hne
    go_enter Try.func9, Try.ntmps9
    go_wp2
    go_ret
    exact ⟨by rw [decide_eq_false HN.out]; rfl, 0, rfl⟩
end Go.Proofs.Ytdenkbdagbmddaa.DcR
