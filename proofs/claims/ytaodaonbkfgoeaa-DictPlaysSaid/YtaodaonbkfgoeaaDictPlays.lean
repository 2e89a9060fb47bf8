/- dict: the law DictPlays. -/
import Derived.Outline
import Derived.Test.YtaodaonbkfgoeaaDictLaw
import Derived.Test.YtaodaonbkfgoeaaOpenRows
namespace Go.Proofs.Ytaodaonbkfgoeaa.DcL
open Go.RowKit Go.Shelf Dc DcM DcW DcI DcR
set_option linter.unusedVariables false

abbrev Stp := Int × Pr
/-- A slice of steps lies in w. -/
def Stps (w : World) (v : Value) (l : List Stp) : Prop := ∃ (A : Option Addr) (cap : Nat), v = .slice A l.length cap ∧
  ∀ j s, l[j]? = some s → ∃ b o, A = some ⟨b, o, none⟩ ∧ b < w.heap.size ∧ w.cell? ⟨b, o + j * 3, none⟩ = some (.int .i64 s.1) ∧ w.cell? ⟨b, o + j * 3 + 1, none⟩ = some (.string s.2.1) ∧ w.cell? ⟨b, o + j * 3 + 2, none⟩ = some (.string s.2.2)
theorem MapAt.sorted {n0 g : Nat} {w : World} {l : List Pr} (h : MapAt n0 w g l) : Sorted l := h.choose_spec.choose_spec.2.1
theorem MapAt.base {n0 g : Nat} {w : World} {l : List Pr} (h : MapAt n0 w g l) : n0 ≤ w.heap.size := h.choose_spec.choose_spec.2.2

set_option maxRecDepth 100000 in
set_option maxHeartbeats 16000000 in
theorem plays_any (w : World) (v : Value) (st : List Stp) (h : Stps w v st) (hn : st.length ≤ maxLen) : Calls Try.prog 6 #[v] w fun e w' => e = .returned (.bool true) ∧ Below w.heap.size w w' := by
  obtain ⟨A, cap, rfl, hc⟩ := h
  have HC := Lib.hid hc
  clear hc
  by_cases hl : 80 < st.length
  · go_enter Try.func6, Try.ntmps6
    go_wp2_with fail
    refine (awake_any _).mono ?_
    rintro e w1 ⟨rfl, hb⟩
    have HB := Lib.hid hb
    clear hb
    go_wp2_with fail
    go_ret
    exact ⟨rfl, HB.out⟩
  · go_enter Try.func6, Try.ntmps6
    go_wp2_with fail
    refine (new_m w.heap.size w (Nat.le_refl _)).mono ?_
    rintro e w1 ⟨rfl, hm1, hk1⟩
    have K1 := Lib.hid hk1
    have M1 := Lib.hid hm1
    clear hk1 hm1
    go_wp2_with fail
    go_loopw [4, 5] (fun x i wr => ∃ (k : Nat) (l : List Pr), k ≤ st.length ∧ i = .int .i64 k ∧ MapAt w.heap.size wr w.heap.size l ∧ l.length ≤ k ∧ wr.ownsRow w.heap.size 50 2 x l.length (cellsP l) ∧ Below w.heap.size w wr) (fun _ i _ => st.length - (intOf i).toNat)
    case atStart =>
      refine ⟨0, [], by omega, rfl, M1.out.below ((Below.refl _ _).alloc (Nat.le_refl _) _), by simp, ?_, K1.out.below.alloc K1.out.size _⟩
      have := World.ownsRow_lit (base := w.heap.size) (e := 50) (size := 2) w1 #[] 0 K1.out.size (by decide) rfl
      simpa [cellsP] using this
    case round =>
      obtain ⟨k, l, hk, rfl, hm, hlen, hrow, hB⟩ := hrel
      by_cases hp : k < st.length
      · obtain ⟨⟨kd, key, val⟩, hs⟩ : ∃ s, st[k]? = some s := ⟨_, List.getElem?_eq_getElem hp⟩
        obtain ⟨b, o, rfl, hbl, c0, c1, c2⟩ := HC.out k _ hs
        have d0 := (hB.cell (p := ⟨b, o + k * 3, none⟩) hbl).trans c0
        have d1 := (hB.cell (p := ⟨b, o + k * 3 + 1, none⟩) hbl).trans c1
        have d2 := (hB.cell (p := ⟨b, o + k * 3 + 2, none⟩) hbl).trans c2
        have hbase := hB.size
        have HM := Lib.hid hm
        have HR := Lib.hid hrow
        have HB := Lib.hid hB
        clear hs c0 c1 c2 hm hrow hB
        go_wp2_with fail
        obtain ⟨W, hW⟩ : ∃ W, W = wr.alloc (.cells #[.int .i64 kd, .string key, .string val] 38) := ⟨_, rfl⟩
        have hb0 : Below wr.heap.size wr W := by rw [hW]; exact (Below.refl _ _).alloc (Nat.le_refl _) _
        have hbx : W.heap[wr.heap.size]? = some (.cells #[.int .i64 kd, .string key, .string val] 38 (0, 0)) := by rw [hW]; exact heap_alloc_new wr _
        have hk0 : Kept w.heap.size wr W := Kept.of_below hb0 hbase
        have hmW := HM.out.below hb0
        have HSD := Lib.hid hmW.sorted
        have hrW := hk0.owns HR.out (by decide) (by decide)
        have HMW := Lib.hid hmW
        have HRW := Lib.hid hrW
        have KBW := Lib.hid (HB.out.trans hk0.below)
        have PW := Lib.hid (Prs.of_owns hrW)
        rw [← hW]
        clear hb0 hk0 hmW hrW hW d0 d1 d2
        refine (get_ref _ _ _ _ PW.out (by omega)).mono ?_
        rintro e w2 ⟨rfl, rfl⟩
        have e0 := cell_of hbx 0
        have e1 := cell_of hbx 1
        have e2 := cell_of hbx 2
        simp only [List.getElem?_toArray, List.getElem?_cons_succ, List.getElem?_cons_zero] at e0 e1 e2
        have HX := Lib.hid hbx
        clear hbx
        by_cases h1 : kd = 1
        · subst h1
          go_wp2_with fail
          refine (put_m HMW.out (by omega) key val).mono ?_
          rintro e w3 ⟨rfl, hm3, hk3⟩
          have hb3 := (hk3.other _ _ _ _ HX.out (by decide) (by decide)).trans HX.out
          have f0 := cell_of hb3 0
          have f1 := cell_of hb3 1
          have f2 := cell_of hb3 2
          simp only [List.getElem?_toArray, List.getElem?_cons_succ, List.getElem?_cons_zero] at f0 f1 f2
          have HM3 := Lib.hid hm3
          have hr3 := hk3.owns HRW.out (by decide) (by decide)
          have P3 := Lib.hid (Prs.of_owns hr3)
          have K3 := Lib.hid (KBW.out.trans hk3.below)
          clear hm3 hk3 hb3 hr3
          go_wp2_with fail
          refine (put_ref _ _ _ key val P3.out (by omega)).mono ?_
          rw [ins_rdel HSD.out]
          rintro e w4 ⟨v4, rfl, hr4, hb4⟩
          have hmN := HM3.out.below hb4
          have hrN := row_base hr4 K3.out.size
          have KB := Lib.hid (K3.out.trans (hb4.mono K3.out.size))
          have HL := Lib.hid (show (put l key val).length ≤ k + 1 from Nat.le_trans (length_put key val HSD.out) (by omega))
          clear hr4 hb4
          obtain ⟨A2, cap2, rfl⟩ := owns_shape hrN
          have hlN : (put l key val).length ≤ k + 1 := HL.out
          have HRN := Lib.hid hrN
          have HMN := Lib.hid hmN
          clear hrN hmN
          go_wp2_with fail
          refine (len_m HMN.out).mono ?_
          rintro e w5 ⟨rfl, rfl⟩
          go_wp2_with fail
          refine (all_m HMN.out (by omega) 100).mono ?_
          rw [List.take_of_length_le (show (put l key val).length ≤ 100 by omega)]
          rintro e w6 ⟨v6, rfl, hr6, hm6, hk6⟩
          have P6 := Lib.hid (Prs.of_owns hr6)
          have K6 := Lib.hid hk6
          have HM6 := Lib.hid hm6
          have hr7 := hk6.owns HRN.out (by decide) (by decide)
          have R7 := Lib.hid hr7
          have P7 := Lib.hid (Prs.of_owns hr7)
          clear hr6 hk6 hm6 hr7
          go_wp2_with fail
          refine (same_ref _ _ _ _ _ P6.out P7.out (by omega)).mono ?_
          rintro e w7 ⟨rfl, n, rfl⟩
          simp only [decide_true]
          go_wp2_with fail
          refine ⟨⟨k + 1, put l key val, by omega, by go_num, HM6.out.below (dn (Below.refl _ _) n), hlN, R7.out, dn (KB.out.trans K6.out.below) n⟩, by show st.length - ((k : Int) + 1).toNat < st.length - (k : Int).toNat; omega⟩
        · have b1 : (kd == 1) = false := by rw [beq_eq_false_iff_ne]; exact h1
          by_cases h2 : kd = 2
          · subst h2
            go_wp2_with fail
            refine (del_m HMW.out (by omega) key).mono ?_
            rintro e w3 ⟨rfl, hm3, hk3⟩
            have hb3 := (hk3.other _ _ _ _ HX.out (by decide) (by decide)).trans HX.out
            have f0 := cell_of hb3 0
            have f1 := cell_of hb3 1
            have f2 := cell_of hb3 2
            simp only [List.getElem?_toArray, List.getElem?_cons_succ, List.getElem?_cons_zero] at f0 f1 f2
            have HM3 := Lib.hid hm3
            have hr3 := hk3.owns HRW.out (by decide) (by decide)
            have P3 := Lib.hid (Prs.of_owns hr3)
            have K3 := Lib.hid (KBW.out.trans hk3.below)
            clear hm3 hk3 hb3 hr3
            go_wp2_with fail
            refine (del_ref _ _ _ key P3.out (by omega)).mono ?_
            rw [rdel_sorted HSD.out]
            rintro e w4 ⟨v4, rfl, hr4, hb4⟩
            have hmN := HM3.out.below hb4
            have hrN := row_base hr4 K3.out.size
            have KB := Lib.hid (K3.out.trans (hb4.mono K3.out.size))
            have HL := Lib.hid (show (del l key).length ≤ k + 1 from Nat.le_trans ((fun h => Nat.le_trans (length_del key h) (Nat.le_refl _)) HSD.out) (by omega))
            clear hr4 hb4
            obtain ⟨A2, cap2, rfl⟩ := owns_shape hrN
            have hlN : (del l key).length ≤ k + 1 := HL.out
            have HRN := Lib.hid hrN
            have HMN := Lib.hid hmN
            clear hrN hmN
            go_wp2_with fail
            refine (len_m HMN.out).mono ?_
            rintro e w5 ⟨rfl, rfl⟩
            go_wp2_with fail
            refine (all_m HMN.out (by omega) 100).mono ?_
            rw [List.take_of_length_le (show (del l key).length ≤ 100 by omega)]
            rintro e w6 ⟨v6, rfl, hr6, hm6, hk6⟩
            have P6 := Lib.hid (Prs.of_owns hr6)
            have K6 := Lib.hid hk6
            have HM6 := Lib.hid hm6
            have hr7 := hk6.owns HRN.out (by decide) (by decide)
            have R7 := Lib.hid hr7
            have P7 := Lib.hid (Prs.of_owns hr7)
            clear hr6 hk6 hm6 hr7
            go_wp2_with fail
            refine (same_ref _ _ _ _ _ P6.out P7.out (by omega)).mono ?_
            rintro e w7 ⟨rfl, n, rfl⟩
            simp only [decide_true]
            go_wp2_with fail
            refine ⟨⟨k + 1, del l key, by omega, by go_num, HM6.out.below (dn (Below.refl _ _) n), hlN, R7.out, dn (KB.out.trans K6.out.below) n⟩, by show st.length - ((k : Int) + 1).toNat < st.length - (k : Int).toNat; omega⟩
          · have b2 : (kd == 2) = false := by rw [beq_eq_false_iff_ne]; exact h2
            go_wp2_with fail
            refine (get_m HMW.out (by omega) key).mono ?_
            rintro e w4 ⟨rfl, hm4, hk4⟩
            have hmN := hm4
            have hrN := hk4.owns HRW.out (by decide) (by decide)
            have KB := Lib.hid (KBW.out.trans hk4.below)
            have HL := Lib.hid (show l.length ≤ k + 1 by omega)
            clear hm4 hk4
            obtain ⟨A2, cap2, rfl⟩ := owns_shape hrN
            have hlN : (l).length ≤ k + 1 := HL.out
            have HRN := Lib.hid hrN
            have HMN := Lib.hid hmN
            clear hrN hmN
            go_wp2_with fail
            refine (len_m HMN.out).mono ?_
            rintro e w5 ⟨rfl, rfl⟩
            go_wp2_with fail
            refine (all_m HMN.out (by omega) 100).mono ?_
            rw [List.take_of_length_le (show (l).length ≤ 100 by omega)]
            rintro e w6 ⟨v6, rfl, hr6, hm6, hk6⟩
            have P6 := Lib.hid (Prs.of_owns hr6)
            have K6 := Lib.hid hk6
            have HM6 := Lib.hid hm6
            have hr7 := hk6.owns HRN.out (by decide) (by decide)
            have R7 := Lib.hid hr7
            have P7 := Lib.hid (Prs.of_owns hr7)
            clear hr6 hk6 hm6 hr7
            go_wp2_with fail
            refine (same_ref _ _ _ _ _ P6.out P7.out (by omega)).mono ?_
            rintro e w7 ⟨rfl, n, rfl⟩
            simp only [decide_true]
            go_wp2_with fail
            refine ⟨⟨k + 1, l, by omega, by go_num, HM6.out.below (dn (Below.refl _ _) n), hlN, R7.out, dn (KB.out.trans K6.out.below) n⟩, by show st.length - ((k : Int) + 1).toNat < st.length - (k : Int).toNat; omega⟩
      · clear hlen
        have HB := Lib.hid hB
        clear hm hrow hB
        go_wp2_with fail
        refine (awake_any _).mono ?_
        rintro e w2 ⟨rfl, hb⟩
        have HB2 := Lib.hid (HB.out.trans (hb.mono HB.out.size))
        clear hb
        go_wp2_with fail
        go_ret
        exact ⟨rfl, HB2.out⟩
theorem open_stps {H : Type} {enc : TypeId × Value → H} {W : World} {base : Nat} {spare : Nat → Bool} {held : Bool} {r : Reach} {b0 : Nat} {v : Value} {d : DataW H} {ps : List MemPlace} (hval : Value.okWide Try.prog W r b0 33 v)
    (h : DataW.Trod enc Try.prog W base spare held 33 v d ps) : ∃ l : List Stp, Stps W v l ∧ l.length ≤ maxLen := by
  have hu := Try.underlying38
  obtain ⟨A, len, cap, rfl, hlc, hcm, hx⟩ := Opn.open_rows Try.underlying33 hu (by kernel_rfl) (by kernel_rfl) (by decide) hval h
  obtain ⟨l, hl, hp⟩ := Opn.list_of (p := fun i (s : Stp) => ∃ b o, A = some ⟨b, o, none⟩ ∧ b < W.heap.size ∧ W.cell? ⟨b, o + i * 3, none⟩ = some (.int .i64 s.1) ∧ W.cell? ⟨b, o + i * 3 + 1, none⟩ = some (.string s.2.1) ∧ W.cell? ⟨b, o + i * 3 + 2, none⟩ = some (.string s.2.2)) (len := len) (fun i hi => by
    obtain ⟨b, o, hA, hf⟩ := hx i hi
    obtain ⟨u0, y0, n0, c0, t0⟩ := hf 0 _ rfl
    obtain ⟨u1, y1, n1, c1, t1⟩ := hf 1 _ rfl
    obtain ⟨u2, y2, n2, c2, t2⟩ := hf 2 _ rfl
    obtain ⟨z, rfl, _⟩ := Opn.cell_int Try.underlying3 t0
    obtain ⟨s1, rfl, _⟩ := Opn.cell_str Try.underlying9 t1
    obtain ⟨s2, rfl, _⟩ := Opn.cell_str Try.underlying9 t2
    exact ⟨(z, (s1, s2)), b, o, hA, World.block_lt_of_cell? W _ c0, c0, c1, c2⟩)
  subst hl
  exact ⟨l, ⟨A, cap, rfl, hp⟩, Nat.le_trans hlc hcm⟩
end Go.Proofs.Ytaodaonbkfgoeaa.DcL
