/- order: the reference's count, Whole, Behind. -/
import Derived.Test.YtdhgacionopghaaGreatDoorOrdSmall
namespace Go.Proofs.YtdhgacionopghaaGreatDoor.Od
open Go.RowKit Go.Shelf Dc DcM DcW DcI DcR DcL Sp
set_option linter.unusedVariables false
def doneAt (l : List CV) (i : Nat) : Bool := match l[i]? with | some q => q.1.done | none => false
def okAt (l : List CV) (row : List Int) (a : Int) : Bool := mappedB l a && decide (row.count a ≤ 1)
def hasAt (l : List CV) (row : List Int) (i : Nat) : Bool := !(mappedB l i && doneAt l i && decide (row.count (i : Int) = 0))
def wholeB (l : List CV) (row : List Int) : Bool := row.all (okAt l row) && (List.range l.length).all (hasAt l row)
def stepAt (l : List CV) (m : List Pr) (a : Int) : List Pr := if mappedB l a then (match l[a.toNat]? with | some q => stepM m q.1 | none => m) else m
def behindM (l : List CV) (row : List Int) : List Pr := row.foldl (stepAt l) []
theorem take_snoc {α : Type} {l : List α} {k : Nat} {p : α} (h : l[k]? = some p) : l.take (k + 1) = l.take k ++ [p] := by
  rw [List.take_add_one, h]; rfl
theorem mapped_at {l : List CV} {a : Int} (h : mappedB l a = true) : ∃ (n : Nat) (q : CV), a = n ∧ n < l.length ∧ l[n]? = some q := by
  unfold mappedB at h
  rw [Bool.and_eq_true, decide_eq_true_eq] at h
  obtain ⟨h0, h1⟩ := h
  cases hq : l[a.toNat]? with
  | none => rw [hq] at h1; cases h1
  | some q => exact ⟨a.toNat, q, by omega, (List.getElem?_eq_some_iff.1 hq).1, hq⟩
theorem sorted_stepM {m : List Pr} {c : CallL} (h : Sorted m) : Sorted (stepM m c) := by
  unfold stepM; split
  · exact h
  · exact sorted_doM h
theorem length_stepM {m : List Pr} {c : CallL} (h : Sorted m) : (stepM m c).length ≤ m.length + 1 := by
  unfold stepM; split
  · omega
  · exact length_doM h
theorem sorted_stepAt {l : List CV} {m : List Pr} {a : Int} (h : Sorted m) : Sorted (stepAt l m a) := by
  unfold stepAt; split
  · split
    · exact sorted_stepM h
    · exact h
  · exact h
theorem length_stepAt {l : List CV} {m : List Pr} {a : Int} (h : Sorted m) : (stepAt l m a).length ≤ m.length + 1 := by
  unfold stepAt; split
  · split
    · exact length_stepM h
    · omega
  · omega
theorem behind_snoc {l : List CV} {row : List Int} {k : Nat} {a : Int} (h : row[k]? = some a) : behindM l (row.take (k + 1)) = stepAt l (behindM l (row.take k)) a := by
  unfold behindM
  rw [take_snoc h, List.foldl_append]; rfl
theorem sorted_behind (l : List CV) : ∀ (row : List Int) (m : List Pr), Sorted m → Sorted (row.foldl (stepAt l) m)
  | [], m, h => h
  | a :: t, m, h => sorted_behind l t _ (sorted_stepAt h)
theorem length_behind (l : List CV) : ∀ (row : List Int) (m : List Pr), Sorted m → (row.foldl (stepAt l) m).length ≤ m.length + row.length
  | [], m, h => by simp
  | a :: t, m, h => by
    have h1 := length_behind l t _ (sorted_stepAt (l := l) (a := a) h)
    have h2 := length_stepAt (l := l) (a := a) h
    rw [List.foldl_cons, List.length_cons]
    omega

set_option maxHeartbeats 8000000 in
theorem count_ref (w : World) (v : Value) (row : List Int) (at_ : Int) (h : Its w v row) (hn : row.length < 1000000) :
    Calls Tryz.prog 40 #[v, .int .i64 at_] w fun e w' => e = .returned (.int .i64 (row.count at_ : Nat)) ∧ w' = w := by
  obtain ⟨A, cap, rfl, _, hc⟩ := h
  have HC := Lib.hid hc
  clear hc
  go_enter Tryz.func40, Tryz.ntmps40
  go_wp2
  go_loopw [5, 6] (fun c i wr => ∃ k n : Nat, k ≤ row.length ∧ i = .int .i64 k ∧ c = .int .i64 n ∧ n = (row.take k).count at_ ∧ n ≤ k ∧ wr = w) (fun _ i _ => row.length - (intOf i).toNat)
  case atStart => exact ⟨0, 0, Nat.zero_le _, rfl, rfl, rfl, Nat.le_refl _, rfl⟩
  case round =>
    obtain ⟨k, n, hk, rfl, rfl, hcn, hnk, rfl⟩ := hrel
    have HN := Lib.hid hcn
    clear hcn
    by_cases hp : k < row.length
    · obtain ⟨a, ha⟩ : ∃ a, row[k]? = some a := ⟨_, List.getElem?_eq_getElem hp⟩
      obtain ⟨b, z, rfl, hbl, hcell⟩ := HC.out k a ha
      have HA := Lib.hid ha
      clear ha
      by_cases he : a = at_
      · subst he
        go_wp2
        refine ⟨⟨k + 1, n + 1, by omega, by go_num, by go_num, ?_, by omega, trivial⟩, by show row.length - ((k : Int) + 1).toNat < row.length - (k : Int).toNat; omega⟩
        rw [take_snoc HA.out, List.count_append, HN.out]; simp
      · have hb : (a == at_) = false := by rw [beq_eq_false_iff_ne]; exact he
        have HE := Lib.hid he
        clear he
        go_wp2
        refine ⟨⟨k + 1, n, by omega, by go_num, by go_num, ?_, by omega, trivial⟩, by show row.length - ((k : Int) + 1).toNat < row.length - (k : Int).toNat; omega⟩
        rw [take_snoc HA.out, List.count_append, HN.out]; simp [HE.out]
    · have hkk : k = row.length := by omega
      have hf := HN.out
      rw [hkk, List.take_length] at hf
      have HF := Lib.hid hf
      clear hf
      go_wp2
      go_ret
      exact ⟨by rw [← HF.out]; rfl, rfl⟩
theorem all_snoc {α : Type} {l : List α} {k : Nat} {q : α} {f : α → Bool} (hq : l[k]? = some q) (h : (l.take k).all f = true) : (l.take (k + 1)).all f = f q := by
  rw [List.take_add_one, hq, List.all_append, h]; simp
theorem all_bad {α : Type} {l : List α} {k : Nat} {q : α} {f : α → Bool} (hq : l[k]? = some q) (h : f q = false) : l.all f = false := by
  rw [← Bool.not_eq_true]
  intro ht
  have := List.all_eq_true.1 ht q (List.mem_of_getElem? hq)
  rw [h] at this
  cases this
set_option maxRecDepth 100000 in
set_option maxHeartbeats 16000000 in
theorem whole_ref (w : World) (v u : Value) (l : List CV) (row : List Int) (h : Cls w v l) (h' : Its w u row) (hn : l.length < 1000000) (hn' : row.length < 1000000) :
    Calls Tryz.prog 26 #[v, u] w fun e w' => e = .returned (.bool (wholeB l row)) ∧ w' = w := by
  have HL := Lib.hid h
  have HR := Lib.hid h'
  obtain ⟨A, cap, rfl, hc⟩ := h
  obtain ⟨B, capB, rfl, _, hc'⟩ := h'
  have HC := Lib.hid hc
  have HC' := Lib.hid hc'
  clear hc hc'
  go_enter Tryz.func26, Tryz.ntmps26
  go_wp2_with fail
  go_loopw [5] (fun i wr => ∃ k : Nat, k ≤ row.length ∧ i = .int .i64 k ∧ (row.take k).all (okAt l row) = true ∧ wr = w) (fun i _ => row.length - (intOf i).toNat)
  case atStart => exact ⟨0, Nat.zero_le _, rfl, rfl, rfl⟩
  case round =>
    obtain ⟨k, hk, rfl, hall, rfl⟩ := hrel
    have HA := Lib.hid hall
    clear hall
    by_cases hp : k < row.length
    · obtain ⟨a, ha⟩ : ∃ a, row[k]? = some a := ⟨_, List.getElem?_eq_getElem hp⟩
      obtain ⟨b, z, rfl, hbl, hcell⟩ := HC'.out k a ha
      have HAA := Lib.hid ha
      clear ha
      go_wp2_with fail
      refine (mapped_ref _ _ l a HL.out hn).mono ?_
      cases hm : mappedB l a with
      | false =>
        rintro e w1 ⟨rfl, hw1⟩
        subst hw1
        have HF := Lib.hid (show wholeB l row = false by
          unfold wholeB
          rw [all_bad HAA.out (show okAt l row a = false by unfold okAt; rw [hm]; rfl)]; rfl)
        clear hm
        go_wp2_with fail
        go_ret
        exact ⟨bool_ret HF.out.symm, rfl⟩
      | true =>
        rintro e w1 ⟨rfl, hw1⟩
        subst hw1
        have HM := Lib.hid hm
        clear hm
        go_wp2_with fail
        refine (count_ref _ _ row a HR.out hn').mono ?_
        rintro e w2 ⟨rfl, hw2⟩
        subst hw2
        by_cases hc1 : row.count a ≤ 1
        · have HO := Lib.hid (show okAt l row a = true by unfold okAt; rw [HM.out, decide_eq_true hc1]; rfl)
          go_wp2_with fail
          exact ⟨⟨k + 1, by omega, by go_num, by rw [all_snoc HAA.out HA.out, HO.out], trivial⟩, by show row.length - ((k : Int) + 1).toNat < row.length - (k : Int).toNat; omega⟩
        · have HF := Lib.hid (show wholeB l row = false by
            unfold wholeB
            rw [all_bad HAA.out (show okAt l row a = false by unfold okAt; rw [HM.out, decide_eq_false hc1]; rfl)]; rfl)
          go_wp2_with fail
          go_ret
          exact ⟨bool_ret HF.out.symm, rfl⟩
    · have HW := Lib.hid (show row.all (okAt l row) = true by
        have := HA.out
        rwa [List.take_of_length_le (by omega)] at this)
      clear HA
      go_wp2_with fail
      clear hk hp
      go_loopw [6] (fun i wr' => ∃ k : Nat, k ≤ l.length ∧ i = .int .i64 k ∧ ((List.range l.length).take k).all (hasAt l row) = true ∧ wr' = wr) (fun i _ => l.length - (intOf i).toNat)
      case atStart => exact ⟨0, Nat.zero_le _, rfl, rfl, rfl⟩
      case round =>
        obtain ⟨k, hk, rfl, hall, rfl⟩ := hrel
        have HA := Lib.hid hall
        clear hall
        by_cases hp : k < l.length
        · have HK := Lib.hid (show (List.range l.length)[k]? = some k by rw [List.getElem?_range hp])
          obtain ⟨q, hq⟩ : ∃ q, l[k]? = some q := ⟨_, List.getElem?_eq_getElem hp⟩
          obtain ⟨_, _, _, _, _, b, z, rfl, hbl, hcell⟩ := HC.out k q hq
          have k8 : World.cell? _ ⟨b, z + k * 15 + 8, none⟩ = some (.bool q.1.done) := hcell 8 _ rfl
          have HD := Lib.hid (show doneAt l k = q.1.done by unfold doneAt; rw [hq])
          clear hcell hq
          go_wp2_with fail
          refine (mapped_ref _ _ l (k : Int) HL.out hn).mono ?_
          cases hm : mappedB l (k : Int) with
          | false =>
            rintro e w1 ⟨rfl, hw1⟩
            subst hw1
            have HO := Lib.hid (show hasAt l row k = true by unfold hasAt; rw [hm]; rfl)
            clear hm
            go_wp2_with fail
            exact ⟨⟨k + 1, by omega, by go_num, by rw [all_snoc HK.out HA.out, HO.out], trivial⟩, by show l.length - ((k : Int) + 1).toNat < l.length - (k : Int).toNat; omega⟩
          | true =>
            rintro e w1 ⟨rfl, hw1⟩
            subst hw1
            have HM := Lib.hid hm
            clear hm
            cases hd : q.1.done with
            | false =>
              rw [hd] at k8
              have HO := Lib.hid (show hasAt l row k = true by unfold hasAt; rw [HM.out, HD.out, hd]; rfl)
              clear hd
              go_wp2_with fail
              exact ⟨⟨k + 1, by omega, by go_num, by rw [all_snoc HK.out HA.out, HO.out], trivial⟩, by show l.length - ((k : Int) + 1).toNat < l.length - (k : Int).toNat; omega⟩
            | true =>
              rw [hd] at k8
              have HDD := Lib.hid (HD.out.trans hd)
              clear hd
              go_wp2_with fail
              refine (count_ref _ _ row (k : Int) HR.out hn').mono ?_
              rintro e w2 ⟨rfl, hw2⟩
              subst hw2
              by_cases hc1 : row.count (k : Int) = 0
              · have HF := Lib.hid (show wholeB l row = false by
                  unfold wholeB
                  rw [all_bad (f := hasAt l row) HK.out (show hasAt l row k = false by unfold hasAt; rw [HM.out, HDD.out, decide_eq_true hc1]; rfl)]; simp)
                go_wp2_with fail
                go_ret
                exact ⟨bool_ret HF.out.symm, rfl⟩
              · have HO := Lib.hid (show hasAt l row k = true by unfold hasAt; rw [HM.out, HDD.out, decide_eq_false hc1]; rfl)
                have hc2 : ¬ ((row.count (k : Int) : Nat) : Int) = 0 := by omega
                go_wp2_with fail
                exact ⟨⟨k + 1, by omega, by go_num, by rw [all_snoc HK.out HA.out, HO.out], trivial⟩, by show l.length - ((k : Int) + 1).toNat < l.length - (k : Int).toNat; omega⟩
        · have HT := Lib.hid (show wholeB l row = true by
            have := HA.out
            rw [List.take_of_length_le (by simp; omega)] at this
            unfold wholeB
            rw [HW.out, this]; rfl)
          go_wp2_with fail
          go_ret
          exact ⟨bool_ret HT.out.symm, rfl⟩
end Go.Proofs.YtdhgacionopghaaGreatDoor.Od
