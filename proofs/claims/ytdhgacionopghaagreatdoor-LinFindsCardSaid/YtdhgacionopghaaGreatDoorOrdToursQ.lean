/- order: the reference's Tours. -/
import Derived.Test.YtdhgacionopghaaGreatDoorOrdToursR
namespace Go.Proofs.YtdhgacionopghaaGreatDoor.Od
open Go.RowKit Go.Shelf Dc DcM DcW DcI DcR DcL Sp
set_option linter.unusedVariables false
set_option linter.unusedSimpArgs false
def badAt (l : List CV) (row : List Int) (i : Nat) : Bool := decide (kindAt l i = 10) && tourBad l row (i : Int)
theorem tours_range (l : List CV) (row : List Int) : toursM l row = match (List.range l.length).find? (badAt l row) with | some i => ((i : Int), false) | none => (0, true) := by
  have h : (ofK l 10 l.length).find? (tourBad l row) = ((List.range l.length).find? (badAt l row)).map fun (i : Nat) => (i : Int) := by
    unfold ofK
    rw [List.find?_map, List.find?_filter]
    congr 2
    funext i
    unfold badAt
    rw [Bool.eq_iff_iff]
    simp
  unfold toursM
  rw [h]
  cases (List.range l.length).find? (badAt l row) <;> rfl
theorem tours_at' {l : List CV} {row : List Int} {k : Nat} (hk : k < l.length) (h0 : (List.range k).any (badAt l row) = false) (hb : badAt l row k = true) : toursM l row = ((k : Int), false) := by
  rw [tours_range]
  have : (List.range l.length).find? (badAt l row) = some k := by
    rw [List.find?_range_eq_some]
    refine ⟨hb, by simpa using hk, fun j hj => ?_⟩
    cases hf : badAt l row j with
    | false => rfl
    | true =>
      have : (List.range k).any (badAt l row) = true := List.any_eq_true.2 ⟨j, by simpa using hj, hf⟩
      rw [this] at h0; cases h0
  rw [this]
theorem tours_ok' {l : List CV} {row : List Int} (h0 : (List.range l.length).any (badAt l row) = false) : toursM l row = (0, true) := by
  rw [tours_range, List.find?_eq_none.2 (by simpa using h0)]
theorem range_snoc {f : Nat → Bool} {k : Nat} (h : (List.range k).any f = false) : (List.range (k + 1)).any f = f k := by
  rw [List.range_succ, List.any_append, h]; simp
set_option maxRecDepth 100000 in
set_option maxHeartbeats 16000000 in
theorem toursR_any (w : World) (v u : Value) (l : List CV) (row : List Int) (h : Cls w v l) (h' : Its w u row) (hn : l.length < 1000000) (hn' : row.length < 10000) (hlp : ∀ (j : Nat) (q : CV), l[j]? = some q → q.1.reply.pairs.length < 100000) :
    Calls Tryz.prog 25 #[v, u] w fun e w' => e = .returned (.tuple #[.int .i64 (toursM l row).1, .bool (toursM l row).2]) ∧ Below w.heap.size w w' := by
  have CRR := Lib.hid (fun W (hw : Below w.heap.size w W) (nt : Nat) (q : CV) (hq : l[nt]? = some q) => rightR_any W v u l row nt q (h.below hw) (h'.below hw) hn hn' hq (hlp nt q hq))
  obtain ⟨A, cap, rfl, hcl⟩ := h
  obtain ⟨B, capB, rfl, _, _⟩ := h'
  have HC := Lib.hid hcl
  clear hcl hlp
  go_enter Tryz.func25, Tryz.ntmps25
  go_wp2_with fail
  go_loopw [6] (fun i wr => ∃ k : Nat, k ≤ l.length ∧ i = .int .i64 k ∧ (List.range k).any (badAt l row) = false ∧ Below w.heap.size w wr) (fun i _ => l.length - (intOf i).toNat)
  case atStart => exact ⟨0, Nat.zero_le _, rfl, rfl, Below.refl _ _⟩
  case round =>
    obtain ⟨k, hk, rfl, hany, hB⟩ := hrel
    have HA := Lib.hid hany
    have HB := Lib.hid hB
    clear hany
    by_cases hp : k < l.length
    · obtain ⟨q, hq⟩ : ∃ q, l[k]? = some q := ⟨_, List.getElem?_eq_getElem hp⟩
      obtain ⟨hpq, _, _, _, _, b2, z2, rfl, hbl2, hcq⟩ := HC.out k q hq
      have HTB := Lib.hid (tourBad_eq (row := row) hq)
      have HKA := Lib.hid (show kindAt l k = q.1.op.kind by unfold kindAt; rw [hq])
      have CR := Lib.hid (CRR.out wr HB.out k q hq)
      have k2 : World.cell? wr ⟨b2, z2 + k * 15 + 2, none⟩ = some (.int .i64 q.1.op.kind) := (hB.cell (p := ⟨b2, z2 + k * 15 + 2, none⟩) hbl2).trans (hcq 2 _ rfl)
      have k8 : World.cell? wr ⟨b2, z2 + k * 15 + 8, none⟩ = some (.bool q.1.done) := (hB.cell (p := ⟨b2, z2 + k * 15 + 8, none⟩) hbl2).trans (hcq 8 _ rfl)
      have k9 : World.cell? wr ⟨b2, z2 + k * 15 + 9, none⟩ = some (.int .i64 q.1.reply.err) := (hB.cell (p := ⟨b2, z2 + k * 15 + 9, none⟩) hbl2).trans (hcq 9 _ rfl)
      obtain ⟨ok, hok⟩ : ∃ x, x = q.1.op.kind := ⟨_, rfl⟩
      obtain ⟨cd, hcd⟩ : ∃ x, x = q.1.done := ⟨_, rfl⟩
      obtain ⟨re, hre⟩ : ∃ x, x = q.1.reply.err := ⟨_, rfl⟩
      rw [← hok] at k2 HKA
      rw [← hcd] at k8 HTB
      rw [← hre] at k9 HTB
      clear hok hcd hre hpq hcq hq hB
      by_cases h10 : ok = 10
      case neg =>
        have hb : (ok == 10) = false := by simp [h10]
        have HN := Lib.hid (show (List.range (k + 1)).any (badAt l row) = false by rw [range_snoc HA.out]; unfold badAt; rw [HKA.out, decide_eq_false h10]; rfl)
        go_wp2_with fail
        exact ⟨⟨k + 1, by omega, by go_num, HN.out, HB.out⟩, by show l.length - ((k : Int) + 1).toNat < l.length - (k : Int).toNat; omega⟩
      subst h10
      cases cd with
      | false =>
        have HN := Lib.hid (show (List.range (k + 1)).any (badAt l row) = false by rw [range_snoc HA.out]; unfold badAt; rw [HTB.out]; simp)
        go_wp2_with fail
        exact ⟨⟨k + 1, by omega, by go_num, HN.out, HB.out⟩, by show l.length - ((k : Int) + 1).toNat < l.length - (k : Int).toNat; omega⟩
      | true =>
        by_cases h0 : re = 0
        case neg =>
          have hb : (re == 0) = false := by simp [h0]
          have HN := Lib.hid (show (List.range (k + 1)).any (badAt l row) = false by rw [range_snoc HA.out]; unfold badAt; rw [HTB.out, decide_eq_false h0]; simp)
          go_wp2_with fail
          exact ⟨⟨k + 1, by omega, by go_num, HN.out, HB.out⟩, by show l.length - ((k : Int) + 1).toNat < l.length - (k : Int).toNat; omega⟩
        subst h0
        go_wp2_with fail
        refine CR.out.mono ?_
        obtain ⟨tk, htk⟩ : ∃ b, b = tourOk l row (k : Int) q.1.reply.pairs := ⟨_, rfl⟩
        rw [← htk]
        rw [← htk] at HTB
        rintro e w3 ⟨rfl, hb3⟩
        have B3 := Lib.hid (HB.out.trans (hb3.mono HB.out.size))
        clear htk hb3
        cases tk with
        | true =>
          have HN := Lib.hid (show (List.range (k + 1)).any (badAt l row) = false by rw [range_snoc HA.out]; unfold badAt; rw [HTB.out]; simp)
          go_wp2_with fail
          exact ⟨⟨k + 1, by omega, by go_num, HN.out, B3.out⟩, by show l.length - ((k : Int) + 1).toNat < l.length - (k : Int).toNat; omega⟩
        | false =>
          have HT := Lib.hid (tours_at' hp HA.out (show badAt l row k = true by unfold badAt; rw [HKA.out, HTB.out]; rfl))
          go_wp2_with fail
          go_ret2
          exact ⟨by rw [HT.out]; rfl, B3.out⟩
    · obtain rfl : k = l.length := by omega
      have HT := Lib.hid (tours_ok' HA.out)
      clear hB
      go_wp2_with fail
      go_ret2
      exact ⟨by rw [HT.out]; rfl, HB.out⟩
end Go.Proofs.YtdhgacionopghaaGreatDoor.Od
