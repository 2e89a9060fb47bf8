/- spec: Right. -/
import Derived.Test.YtdhgacionopghaaGreatDoorSpecSmall
namespace Go.Proofs.YtdhgacionopghaaGreatDoor.Sp
open Go.RowKit Go.Shelf Dc DcM DcW DcI DcR DcL
set_option linter.unusedVariables false
instance sortedDec (l : List Pr) : Decidable (Sorted l) := inferInstanceAs (Decidable (List.Pairwise _ l))
theorem right_ref' (w : World) (v : Value) (l : List Pr) (h : Prs w v l) (hn : l.length < 1000000) :
    Calls Tryz.prog 50 #[v] w fun e w' => e = .returned (.bool (decide (Sorted l))) ∧ ∃ n, w' = w.drewN n :=
  (right_ref w v l h hn).mono fun e w' ⟨⟨b, he, hb⟩, hw⟩ => ⟨by rw [he, show b = decide (Sorted l) by rw [Bool.eq_iff_iff, hb]; simp], hw⟩
set_option maxRecDepth 100000 in
set_option maxHeartbeats 8000000 in
theorem right_spec (w : World) (v : Value) (l : List Pr) (h : Prs w v l) (hn : l.length < 1000000) :
    Calls Tryz.prog 85 #[v] w fun e w' => e = .returned (.bool (decide (Sorted l))) ∧ ∃ n, w' = w.drewN n := by
  obtain ⟨A, cap, rfl, _, hc⟩ := h
  have HC := Lib.hid hc
  clear hc
  go_enter Tryz.func85, Tryz.ntmps85
  go_wp2
  go_loopw [6] (fun i wr => ∃ k : Nat, k ≤ l.length ∧ i = .int .i64 k ∧ Sorted (l.take k) ∧ ∃ n, wr = w.drewN n) (fun i _ => l.length - (intOf i).toNat)
  case atStart => exact ⟨0, Nat.zero_le _, rfl, List.Pairwise.nil, 0, rfl⟩
  case round =>
    obtain ⟨k, hk, rfl, hs, n, rfl⟩ := hrel
    have HS := Lib.hid hs
    clear hs
    by_cases hp : k < l.length
    · cases k with
      | zero =>
        go_wp2
        go_quiet (fail)
        go_wp2
        refine ⟨⟨1, by omega, by go_num, ?_, n + nq, rfl⟩, by show l.length - ((1 : Int)).toNat < l.length - (0 : Int).toNat; omega⟩
        match l, hp with
        | p :: t, _ => exact List.pairwise_singleton _ _
      | succ k =>
        rw [Int.natCast_succ]
        obtain ⟨p, hp2⟩ : ∃ p, l[k]? = some p := ⟨_, List.getElem?_eq_getElem (by omega)⟩
        obtain ⟨q, hq2⟩ : ∃ p, l[k + 1]? = some p := ⟨_, List.getElem?_eq_getElem hp⟩
        obtain ⟨b, o, rfl, c1, c2⟩ := HC.out k p hp2
        obtain ⟨b', o', hb', d1, d2⟩ := HC.out (k + 1) q hq2
        obtain ⟨rfl, rfl⟩ : b = b' ∧ o = o' := by simpa using hb'
        have HP := Lib.hid hp2
        have HQ := Lib.hid hq2
        clear hp2 hq2 c2 d2 hb'
        cases hlt : lt p.1 q.1 with
        | true =>
          have hb : Op.bytesLess p.1.toList q.1.toList = true := hlt
          have HL := Lib.hid hlt
          clear hlt
          go_wp2
          go_quiet (fail)
          go_wp2
          refine ⟨⟨k + 1 + 1, by omega, by go_num, sorted_snoc HS.out HP.out HQ.out HL.out, n + nq, rfl⟩, ?_⟩
          show l.length - ((k : Int) + 1 + 1).toNat < l.length - ((k : Int) + 1).toNat
          omega
        | false =>
          have hb : Op.bytesLess p.1.toList q.1.toList = false := hlt
          have HL := Lib.hid hlt
          clear hlt
          go_wp2
          go_quiet (fail)
          go_wp2
          go_ret
          exact ⟨by rw [decide_eq_false (not_sorted HP.out HQ.out HL.out)]; rfl, n + nq, World.drewN_drewN _ _ _⟩
    · go_wp2
      go_ret
      have := HS.out
      rw [List.take_of_length_le (by omega)] at this
      exact ⟨by rw [decide_eq_true this]; rfl, n, rfl⟩
end Go.Proofs.YtdhgacionopghaaGreatDoor.Sp
