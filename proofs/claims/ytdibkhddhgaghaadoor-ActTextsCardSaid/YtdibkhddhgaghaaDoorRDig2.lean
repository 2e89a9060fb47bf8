/- The walks of the reference of the package digit, second part: Word and Parse. -/
import Derived.Test.YtdibkhddhgaghaaDoorRDig
import Derived.WalkLawsBesides
namespace Go.Proofs.YtdibkhddhgaghaaDoor.DgR
open Go.RowKit DgF DgW
/-- the greatest word's digits -/
def top : List UInt8 := [49, 56, 52, 52, 54, 55, 52, 52, 48, 55, 51, 55, 48, 57, 53, 53, 49, 54, 49, 53]
theorem val_shift (l : List UInt8) : ∀ acc, Dg.val acc l = acc * 10 ^ l.length + Dg.val 0 l := by
  induction l with
  | nil => intro acc; show acc = acc * 10 ^ 0 + 0; omega
  | cons c l ih =>
    intro acc
    show Dg.val (acc * 10 + (c.toNat - 48)) l = acc * 10 ^ (l.length + 1) + Dg.val (0 * 10 + (c.toNat - 48)) l
    rw [ih (acc * 10 + (c.toNat - 48)), ih (0 * 10 + (c.toNat - 48)), Nat.pow_succ, Nat.add_mul, Nat.zero_mul, Nat.zero_add, Nat.mul_assoc, Nat.mul_comm 10, Nat.add_assoc]
theorem val_cons (c : UInt8) (l : List UInt8) : Dg.val 0 (c :: l) = (c.toNat - 48) * 10 ^ l.length + Dg.val 0 l := by
  show Dg.val (0 * 10 + (c.toNat - 48)) l = _
  rw [val_shift l, Nat.zero_mul, Nat.zero_add]
theorem less_num (m n p u v : Nat) (va : u < p) (vb : v < p) : (m < n ∨ m = n ∧ u < v) ↔ m * p + u < n * p + v := by
  constructor
  · rintro (q | ⟨q, q'⟩)
    · have : (m + 1) * p ≤ n * p := Nat.mul_le_mul_right p q
      rw [Nat.add_mul, Nat.one_mul] at this
      omega
    · subst q; omega
  · intro q
    rcases Nat.lt_trichotomy m n with r | r | r
    · exact .inl r
    · subst r; exact .inr ⟨rfl, by omega⟩
    · exfalso
      have : (n + 1) * p ≤ m * p := Nat.mul_le_mul_right p r
      rw [Nat.add_mul, Nat.one_mul] at this
      omega
theorem less_iff (a : List UInt8) : ∀ b : List UInt8, a.length = b.length → a.all Dg.isD = true → b.all Dg.isD = true → (Op.bytesLess a b = true ↔ Dg.val 0 a < Dg.val 0 b) := by
  induction a with
  | nil =>
    intro b h _ _
    cases b with
    | nil => exact ⟨fun q => by simp [Op.bytesLess] at q, fun q => absurd q (Nat.lt_irrefl _)⟩
    | cons _ _ => simp at h
  | cons x a ih =>
    intro b h ha hb
    cases b with
    | nil => simp at h
    | cons y b =>
      have hl : a.length = b.length := by simpa using h
      rw [List.all_cons, Bool.and_eq_true, Dg.isD_iff] at ha hb
      have ih := ih b hl ha.2 hb.2
      have va := Dg.val_lt a 0 ha.2
      have vb := Dg.val_lt b 0 hb.2
      rw [← hl, Nat.zero_add, Nat.one_mul] at vb
      rw [Nat.zero_add, Nat.one_mul] at va
      rw [val_cons, val_cons, ← hl, Op.bytesLess, Bool.or_eq_true, Bool.and_eq_true, decide_eq_true_iff, beq_iff_eq, ih, ← less_num _ _ _ _ _ va vb, UInt8.lt_iff_toNat_lt, ← UInt8.toNat_inj]
      have h1 : x.toNat < y.toNat ↔ x.toNat - 48 < y.toNat - 48 := by omega
      have h2 : x.toNat = y.toNat ↔ x.toNat - 48 = y.toNat - 48 := by omega
      rw [h1, h2]
theorem less_tri (a : List UInt8) : ∀ b : List UInt8, a.length = b.length → Op.bytesLess a b = false → Op.bytesLess b a = false → a = b := by
  induction a with
  | nil =>
    intro b h _ _
    cases b with
    | nil => rfl
    | cons _ _ => simp at h
  | cons x a ih =>
    intro b h h1 h2
    cases b with
    | nil => simp at h
    | cons y b =>
      rw [Op.bytesLess, Bool.or_eq_false_iff, decide_eq_false_iff_not] at h1 h2
      have e : x = y := by
        apply UInt8.toNat_inj.mp
        have a1 := h1.1
        have a2 := h2.1
        rw [UInt8.lt_iff_toNat_lt] at a1 a2
        omega
      subst e
      rw [beq_self_eq_true, Bool.true_and] at h1 h2
      rw [ih b (by simpa using h) h1.2 h2.2]
theorem top_val : Dg.val 0 top = 18446744073709551615 := by decide +kernel
theorem top_all : top.all Dg.isD = true := by decide +kernel
/-- 's > most' of twenty digits -/
theorem more_top (l : List UInt8) (h : l.length = 20) (ha : l.all Dg.isD = true) : (!(Op.bytesLess l top || l == top)) = decide (18446744073709551616 ≤ Dg.val 0 l) := by
  have h1 := less_iff l top h ha top_all
  have h2 := less_iff top l h.symm top_all ha
  rw [top_val] at h1 h2
  by_cases e : l = top
  · rw [e, top_val]; decide +kernel
  · have he : (l == top) = false := beq_eq_false_iff_ne.mpr e
    rw [he, Bool.or_false, Bool.eq_iff_iff, Bool.not_eq_true', decide_eq_true_iff]
    constructor
    · intro q
      have : ¬ Dg.val 0 l < 18446744073709551615 := fun r => by rw [h1.mpr r] at q; cases q
      rcases Nat.lt_or_ge 18446744073709551615 (Dg.val 0 l) with r | r
      · exact r
      · exfalso
        have hv : Dg.val 0 l = 18446744073709551615 := Nat.le_antisymm r (Nat.le_of_not_lt this)
        have l1 : Op.bytesLess l top = false := by
          cases hb : Op.bytesLess l top with
          | false => rfl
          | true => exact absurd (h1.mp hb) this
        have l2 : Op.bytesLess top l = false := by
          cases hb : Op.bytesLess top l with
          | false => rfl
          | true => exact absurd (h2.mp hb) (by omega)
        exact e (less_tri l top h l1 l2)
    · intro q
      cases hb : Op.bytesLess l top with
      | false => rfl
      | true => exact absurd (h1.mp hb) (by omega)
theorem int_val {k : IntKind} {a b : Int} (h : a = b) : Value.int k a = Value.int k b := by rw [h]
theorem isD_at {s : ByteArray} (h : s.data.toList.all Dg.isD = true) (k : Nat) (hk : k < s.size) : 48 ≤ s[k].toNat ∧ s[k].toNat ≤ 57 := by
  rw [List.all_eq_true] at h
  have hm : s[k] ∈ s.data.toList := List.getElem_mem (by rw [size_list]; exact hk : k < s.data.toList.length)
  exact (Dg.isD_iff _).mp (h _ hm)
theorem digitsB_all {l : List UInt8} (h : digitsB l = true) : l.all Dg.isD = true := by unfold digitsB at h; rw [Bool.and_eq_true] at h; exact h.2
/-- the sum in a round of the loop -/
theorem val_step (s : ByteArray) (k V : Nat) (hk : k < s.size) : Dg.val V (s.data.toList.drop k) = Dg.val (V * 10 + (s[k].toNat - 48)) (s.data.toList.drop (k + 1)) := by
  rw [drop_at s k hk]; rfl
set_option maxHeartbeats 2000000 in
set_option maxRecDepth 1000000 in
theorem word_any (s : ByteArray) (hs : s.size ≤ 281474976710656) (w : World) :
    Calls Tryd.prog 44 #[.string s] w fun e w' => e = .returned (.tuple #[.int .u64 (Dg.word s.data.toList).1, .int .i64 (Dg.word s.data.toList).2]) ∧ w = w' := by
  have hD := digits_any s hs
  have hpl := digits_plain s.data.toList 20
  rw [size_list] at hpl
  cases hd : digitsB s.data.toList with
  | false =>
    have e : Dg.word s.data.toList = (0, 3) := by unfold Dg.word; rw [hpl, hd]; rfl
    rw [e]
    rw [hd] at hD
    have HD := Lib.hid hD
    clear e hD hpl hd
    go_enter Tryd.func44, Tryd.ntmps44
    go_wp2_with (go_at_call 84; refine (HD.out _).mono ?_; rintro e w' ⟨rfl, rfl⟩)
    go_ret2
    exact ⟨rfl, rfl⟩
  | true =>
    have hall := digitsB_all hd
    rw [hd] at hD
    have HD := Lib.hid hD
    by_cases hl : s.size ≤ 20
    · have hp : Dg.plain s.data.toList 20 = true := by rw [hpl, hd, decide_eq_true hl]; rfl
      have b1 : decide (20 < (s.size : Int)) = false := decide_eq_false (by omega)
      have hl19 : s.size ≠ 20 → Dg.val 0 s.data.toList < 18446744073709551616 := fun h => by
        have := Dg.val_lt s.data.toList 0 hall
        rw [size_list] at this
        have e : 10 ^ s.size ≤ 10 ^ 19 := Nat.pow_le_pow_right (by omega) (by omega)
        omega
      by_cases hv : Dg.val 0 s.data.toList < 18446744073709551616
      · have e : Dg.word s.data.toList = (((Dg.val 0 s.data.toList : Nat) : Int), 0) := by unfold Dg.word; rw [if_pos hp, if_neg (by omega)]
        rw [e]
        have hg : ((s.size : Int) == 20) = false ∨ (((s.size : Int) == 20) = true ∧ Op.bytesLess s.toList [49, 56, 52, 52, 54, 55, 52, 52, 48, 55, 51, 55, 48, 57, 53, 53, 49, 54, 49, 53] = true) ∨ (((s.size : Int) == 20) = true ∧ Op.bytesLess s.toList [49, 56, 52, 52, 54, 55, 52, 52, 48, 55, 51, 55, 48, 57, 53, 53, 49, 54, 49, 53] = false ∧ (s.toList == [49, 56, 52, 52, 54, 55, 52, 52, 48, 55, 51, 55, 48, 57, 53, 53, 49, 54, 49, 53]) = true) := by
          by_cases h20 : s.size = 20
          · right
            have q : (!(Op.bytesLess s.toList top || s.toList == top)) = false := by rw [ByteArray.toList_eq, more_top _ (by rw [size_list]; exact h20) hall]; exact decide_eq_false (by omega)
            have g1 : ((s.size : Int) == 20) = true := by rw [beq_iff_eq]; omega
            cases hb : Op.bytesLess s.toList top with
            | true => exact .inl ⟨g1, hb⟩
            | false =>
              rw [hb, Bool.false_or, Bool.not_eq_false'] at q
              exact .inr ⟨g1, hb, q⟩
          · exact .inl (by rw [beq_eq_false_iff_ne]; omega)
        have HV := Lib.hid (rfl : Dg.val 0 s.data.toList = Dg.val 0 s.data.toList)
        generalize hT : Dg.val 0 s.data.toList = T at *
        have HT := Lib.hid hT
        have HL := Lib.hid hall
        clear e hD hpl hd hp hl19 hT hall HV
        rcases hg with g1 | ⟨g1, g2⟩ | ⟨g1, g2, g3⟩
        all_goals
          go_enter Tryd.func44, Tryd.ntmps44
          go_wp2_with (go_at_call 84; refine (HD.out _).mono ?_; rintro e w' ⟨rfl, rfl⟩)
          go_loop [5, 6] (fun v i => ∃ k V : Nat, k ≤ s.size ∧ i = .int .i64 k ∧ v = .int .u64 V ∧ Hid (Dg.val V (s.data.toList.drop k) = T)) (fun _ i => s.size - (intOf i).toNat)
          case atStart => exact ⟨0, 0, by omega, rfl, rfl, by rw [List.drop_zero]; exact HT⟩
          case round =>
            obtain ⟨k, V, hk, rfl, rfl, hT⟩ := hrel
            by_cases hp : k < s.size
            · obtain ⟨h1, h2⟩ := isD_at HL.out k hp
              have hn : Dg.val (V * 10 + (s[k].toNat - 48)) (s.data.toList.drop (k + 1)) = T := by rw [← val_step s k V hp]; exact hT
              have hge := Dg.val_ge (s.data.toList.drop (k + 1)) (V * 10 + (s[k].toNat - 48))
              rw [hn] at hge
              have HN := Lib.hid hn
              clear hn hT
              have c1 : (48 : Int) ≤ (s[k].toNat : Int) := by omega
              have c2 : (s[k].toNat : Int) ≤ 57 := by omega
              have c3 : (10 : Int) * (V : Int) ≤ 18446744073709551615 := by omega
              go_wp2
              exact ⟨⟨k + 1, V * 10 + (s[k].toNat - 48), by omega, by go_num, int_val (by omega), HN⟩, by show s.size - ((k : Int) + 1).toNat < s.size - (k : Int).toNat; omega⟩
            · have hV : V = T := by
                have q : Dg.val V (s.data.toList.drop k) = T := hT
                rw [List.drop_of_length_le (by rw [size_list]; omega)] at q
                exact q
              subst hV
              clear hT
              go_wp2
              go_ret2
              exact ⟨rfl, rfl⟩
      · have e : Dg.word s.data.toList = (0, 5) := by unfold Dg.word; rw [if_pos hp, if_pos (by omega)]
        rw [e]
        have h20 : s.size = 20 := Decidable.byContradiction fun h => hv (hl19 h)
        have g1 : ((s.size : Int) == 20) = true := by rw [beq_iff_eq]; omega
        have q : (!(Op.bytesLess s.toList top || s.toList == top)) = true := by rw [ByteArray.toList_eq, more_top _ (by rw [size_list]; exact h20) hall]; exact decide_eq_true (by omega)
        rw [Bool.not_eq_true', Bool.or_eq_false_iff] at q
        have g2 : Op.bytesLess s.toList [49, 56, 52, 52, 54, 55, 52, 52, 48, 55, 51, 55, 48, 57, 53, 53, 49, 54, 49, 53] = false := q.1
        have g3 : (s.toList == [49, 56, 52, 52, 54, 55, 52, 52, 48, 55, 51, 55, 48, 57, 53, 53, 49, 54, 49, 53]) = false := q.2
        clear q
        clear e hD hpl hd hp hl19 hall hv h20
        go_enter Tryd.func44, Tryd.ntmps44
        go_wp2_with (go_at_call 84; refine (HD.out _).mono ?_; rintro e w' ⟨rfl, rfl⟩)
        go_ret2
        exact ⟨rfl, rfl⟩
    · have e : Dg.word s.data.toList = (0, 3) := by unfold Dg.word; rw [hpl, decide_eq_false hl, Bool.and_false]; rfl
      rw [e]
      have b1 : decide (20 < (s.size : Int)) = true := decide_eq_true (by omega)
      clear e hD hpl hd hall
      go_enter Tryd.func44, Tryd.ntmps44
      go_wp2_with (go_at_call 84; refine (HD.out _).mono ?_; rintro e w' ⟨rfl, rfl⟩)
      go_ret2
      exact ⟨rfl, rfl⟩
end Go.Proofs.YtdibkhddhgaghaaDoor.DgR
