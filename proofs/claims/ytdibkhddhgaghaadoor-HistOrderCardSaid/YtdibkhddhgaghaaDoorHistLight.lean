/- The laws' light; and: to be ahead is an order (plain). -/
import Derived.Test.YtdibkhddhgaghaaDoorHistRight
namespace Go.Proofs.YtdibkhddhgaghaaDoor.Hs
open Go.RowKit
set_option linter.unusedVariables false
set_option linter.unusedSimpArgs false
def few (q : CV) : Nat := q.1.reply.pairs.length
def sumP (l : List CV) : Nat := (l.map few).sum
theorem sumP_snoc {l : List CV} {k : Nat} {q : CV} (h : l[k]? = some q) : sumP (l.take (k + 1)) = sumP (l.take k) + few q := by
  unfold sumP; rw [List.take_add_one, h]; simp
/-- What light tells. -/
def Lit (l : List CV) : Prop := l.length ≤ 30 ∧ (∀ q ∈ l, few q ≤ 1100) ∧ sumP l ≤ 1200
def LightPost (l : List CV) (w : World) (e : Ending) (w' : World) : Prop := ∃ b, e = .returned (.bool b) ∧ w' = w ∧ (b = true → Lit l)
set_option maxHeartbeats 4000000 in
theorem light_any (w : World) (v : Value) (l : List CV) (h : Cls w v l) (hn : l.length ≤ maxLen) (hp : ∀ q ∈ l, few q ≤ maxLen) :
    Calls Tryd.prog 14 #[v] w (LightPost l w) := by
  unfold maxLen at hn hp
  obtain ⟨A, cap, rfl, _, hc⟩ := h
  have HC := Lib.hid hc
  have HP := Lib.hid hp
  clear hc hp
  go_enter Tryd.func14, Tryd.ntmps14
  go_wp2
  go_loopw [3, 4] (fun n i wr => ∃ k : Nat, k ≤ l.length ∧ k ≤ 40 ∧ i = .int .i64 k ∧ n = .int .i64 (sumP (l.take k) : Nat) ∧ sumP (l.take k) ≤ 1200 ∧ (∀ q ∈ l.take k, few q ≤ 1100) ∧ wr = w) (fun _ i _ => 40 - (intOf i).toNat)
  case atStart => exact ⟨0, Nat.zero_le _, by omega, rfl, rfl, by simp [sumP], fun q hq => by simp at hq, rfl⟩
  case round =>
    obtain ⟨k, hk, hk40, rfl, rfl, hsum, hall, rfl⟩ := hrel
    have HA := Lib.hid hall
    clear hall
    by_cases hlt : k < l.length
    · by_cases h40 : k < 40
      · obtain ⟨q, hq⟩ : ∃ q, l[k]? = some q := ⟨_, List.getElem?_eq_getElem hlt⟩
        obtain ⟨hPq, b, z, rfl, hbl, hcell⟩ := HC.out k q hq
        obtain ⟨PA, pc, hpv, _⟩ := hPq
        have hfew := HP.out q (List.mem_of_getElem? hq)
        have hsn := sumP_snoc hq
        have HQ := Lib.hid hq
        obtain ⟨c, pv⟩ := q
        dsimp only at hpv hcell
        subst hpv
        have k14 : wr.cell? ⟨b, z + k * 15 + 14, none⟩ = some (.slice PA c.reply.pairs.length pc) := hcell 14 _ rfl
        obtain ⟨f, hf⟩ : ∃ f, f = c.reply.pairs.length := ⟨_, rfl⟩
        have hff : few (c, Value.slice PA c.reply.pairs.length pc) = f := hf.symm
        rw [hff] at hfew hsn
        rw [← hf] at k14
        have HF := Lib.hid hf
        have HFF := Lib.hid hff
        have HSN := Lib.hid hsn
        clear hcell hq hf hff hsn
        by_cases h1 : f ≤ 1100
        · have hw : IntKind.i64.wrap ((sumP (l.take k) : Nat) + (f : Int)) = ((sumP (l.take k) + f : Nat) : Int) := by rw [IntWalk.i64_in _ (by omega)]; omega
          by_cases h2 : sumP (l.take k) + f ≤ 1200
          · go_wp2
            refine ⟨⟨k + 1, by omega, by omega, by go_num, by rw [HSN.out]; go_num, by rw [HSN.out]; exact h2, fun q hq => ?_, trivial⟩, by show 40 - ((k : Int) + 1).toNat < 40 - (k : Int).toNat; omega⟩
            rw [List.take_add_one, HQ.out] at hq
            rcases List.mem_append.1 hq with hq | hq
            · exact HA.out q hq
            · simp at hq; subst hq; rw [HFF.out]; exact h1
          · go_wp2
            go_ret
            exact ⟨false, rfl, rfl, fun h => by cases h⟩
        · go_wp2
          go_ret
          exact ⟨false, rfl, rfl, fun h => by cases h⟩
      · have h30 : decide ((l.length : Int) ≤ 30) = false := decide_eq_false (by omega)
        go_wp2
        go_ret
        exact ⟨false, rfl, rfl, fun h => by cases h⟩
    · have hke : k = l.length := by omega
      have HL := Lib.hid (show sumP l ≤ 1200 ∧ ∀ q ∈ l, few q ≤ 1100 from by
        have h1 : l.take k = l := by rw [hke]; exact List.take_length
        rw [h1] at hsum
        exact ⟨hsum, by have := HA.out; rw [h1] at this; exact this⟩)
      clear hke
      go_wp2
      go_ret
      exact ⟨decide ((l.length : Int) ≤ 30), rfl, rfl, fun h => ⟨by have := of_decide_eq_true h; omega, HL.out.2, HL.out.1⟩⟩
/-! ### to be ahead is an order -/
theorem alone_span {c : CallL} (h : alone c = true) (hd : c.done = true) : c.begin_ ≤ c.end_ := by
  unfold alone at h
  simp only [Bool.and_eq_true] at h
  have := h.2
  rw [hd] at this
  simpa using this
theorem bef_irr {c : CallL} (h : alone c = true) : bef c c = false := by
  rw [← Bool.not_eq_true]
  intro hb
  unfold bef at hb
  simp only [Bool.and_eq_true, decide_eq_true_eq] at hb
  have := alone_span h hb.1
  omega
theorem bef_trans {a b c : CallL} (hb : alone b = true) (h1 : bef a b = true) (h2 : bef b c = true) : bef a c = true := by
  unfold bef at *
  simp only [Bool.and_eq_true, decide_eq_true_eq] at *
  have := alone_span hb h2.1
  exact ⟨h1.1, by omega⟩
theorem lastOf_ge {l : List CV} {t : Int} {j : Nat} {q : CV} (hq : l[j]? = some q) (ht : q.1.thread = t) : ∀ {k : Nat}, j < k → ∃ i, lastOf l k t = some i ∧ j ≤ i
  | 0, h => by omega
  | k + 1, h => by
    unfold lastOf
    by_cases hk : j = k
    · subst hk
      rw [hq]
      dsimp only
      rw [if_pos ht]
      exact ⟨_, rfl, Nat.le_refl _⟩
    · obtain ⟨i, hi, hji⟩ := lastOf_ge hq ht (k := k) (by omega)
      cases hl : l[k]? with
      | none => exact ⟨i, hi, hji⟩
      | some p =>
        dsimp only
        by_cases hp : p.1.thread = t
        · rw [if_pos hp]; exact ⟨k, rfl, by omega⟩
        · rw [if_neg hp]; exact ⟨i, hi, hji⟩
theorem chain {l : List CV} (hr : rightM l = true) : ∀ (i : Nat) (j : Nat) (p q : CV), l[i]? = some q → l[j]? = some p → j < i → p.1.thread = q.1.thread → bef p.1 q.1 = true := by
  intro i
  induction i using Nat.strongRecOn with
  | _ i ih =>
    intro j p q hq hp hji ht
    have hil := (List.getElem?_eq_some_iff.1 hq).1
    have hg := goesUp_at hq hr hil
    obtain ⟨m, hm, hjm⟩ := lastOf_ge (t := q.1.thread) hp ht hji
    obtain ⟨hmi, r, hr', hrt⟩ := lastOf_lt hm
    have hb : bef r.1 q.1 = true := by
      unfold goes at hg
      rw [hm] at hg
      dsimp only at hg
      rw [hr'] at hg
      simp only [Bool.and_eq_true] at hg
      exact hg.2.2
    by_cases he : j = m
    · subst he
      have := hp.symm.trans hr'
      injection this with this
      rw [this]; exact hb
    · have h1 := ih m hmi j p r hr' hp (by omega) (by rw [ht, hrt])
      exact bef_trans (goes_alone (goesUp_at hr' hr (by omega))) h1 hb
end Go.Proofs.YtdibkhddhgaghaaDoor.Hs
