/- order: always, right. -/
import Derived.Test.YtdhgacionopghaaGreatDoorOrdFunc
import Derived.Maps.AppendAt
namespace Go.Proofs.YtdhgacionopghaaGreatDoor.Od
open Go.RowKit Go.Shelf Dc DcM DcW DcI DcR DcL Sp
set_option linter.unusedVariables false
theorem infoS : (Tryz.prog.info? 9).map (fun i => (i.zero, i.size, i.bytes)) = some (some (.string ⟨#[]⟩), 1, 16) := by kernel_rfl
def everyB (ms : List (List Pr)) (k : ByteArray) : Bool := ms.all fun m => hasKey m k
def alwaysM (ms : List (List Pr)) : List ByteArray := ((ms.headD []).filter fun p => everyB ms p.1).map Prod.fst
def alwaysK (ms : List (List Pr)) (k : Nat) : List ByteArray := (((ms.headD []).take k).filter fun p => everyB ms p.1).map Prod.fst
theorem alwaysK_snoc {ms : List (List Pr)} {m0 : List Pr} {k : Nat} {p : Pr} (hm : ms.headD [] = m0) (hp : m0[k]? = some p) : alwaysK ms (k + 1) = alwaysK ms k ++ (if everyB ms p.1 then [p.1] else []) := by
  unfold alwaysK
  rw [hm, take_hit hp, List.filter_append, List.map_append]
  cases h : everyB ms p.1 <;> simp [h]
theorem alwaysK_all {ms : List (List Pr)} {m0 : List Pr} (hm : ms.headD [] = m0) {k : Nat} (hk : m0.length ≤ k) : alwaysK ms k = alwaysM ms := by
  unfold alwaysK alwaysM
  rw [hm, List.take_of_length_le hk]
theorem alwaysK_len (ms : List (List Pr)) (k : Nat) : (alwaysK ms k).length ≤ k := by
  unfold alwaysK
  rw [List.length_map]
  exact Nat.le_trans (List.length_filter_le _ _) (List.length_take_le _ _)
theorem all_snoc' {α : Type} {l : List α} {k : Nat} {q : α} {f : α → Bool} (hq : l[k]? = some q) : (l.take (k + 1)).all f = ((l.take k).all f && f q) := by
  rw [List.take_add_one, hq, List.all_append]; simp
def rightM (p : List Pr) (ms : List (List Pr)) : Bool := decide (Sorted p) && p.all (fun x => ms.any fun m => hasPair m x) && (alwaysM ms).all (hasKey p)
theorem row_below {w w' : World} {n0 : Nat} {v : Value} {xs : List ByteArray} (h : Row w n0 v xs) (hb : Below w.heap.size w w') : Row w' n0 v xs := owns_kept h fun k cs f hk => hb.block k (Array.getElem?_eq_some_iff.1 hk).1

set_option maxRecDepth 100000 in
set_option maxHeartbeats 8000000 in
theorem always_any (w : World) (v : Value) (ms : List (List Pr)) (h : Rws w v ms) (hn : ms.length < 1000000) (h0 : 0 < ms.length) :
    Calls Tryz.prog 89 #[v] w fun e w' => ∃ v', e = .returned v' ∧ Row w' w.heap.size v' (alwaysM ms) ∧ Below w.heap.size w w' := by
  obtain ⟨i0, hi, hz0, hz1, hz2⟩ := info_parts infoS
  obtain ⟨m0, hm0⟩ : ∃ m, ms[0]? = some m := ⟨_, List.getElem?_eq_getElem h0⟩
  have HM0 := Lib.hid (show ms.headD [] = m0 by cases ms with
    | nil => simp at h0
    | cons a t => simp at hm0; simpa using hm0)
  have HP := Lib.hid h
  obtain ⟨A, cap, rfl, _⟩ := h
  obtain ⟨hml, b, z, u, rfl, hbl, hcell, hpr⟩ := rws_at HP.out hm0
  rw [Nat.add_zero] at hcell
  have HPR := Lib.hid hpr
  obtain ⟨Au, cu, rfl, _, _⟩ := hpr
  clear hm0
  go_enter Tryz.func89, Tryz.ntmps89
  go_wp2_with fail
  clear hcell
  go_loopw [3, 13] (fun ov i wr => ∃ k : Nat, k ≤ m0.length ∧ i = .int .i64 k ∧ Row wr w.heap.size ov (alwaysK ms k) ∧ Below w.heap.size w wr) (fun _ i _ => m0.length - (intOf i).toNat)
  case atStart => exact ⟨0, Nat.zero_le _, rfl, World.ownsRow_nil _ _ _ _, Below.refl _ _⟩
  case round =>
    obtain ⟨k, hk, rfl, hrow, hB⟩ := hrel
    have HR := Lib.hid hrow
    have HB := Lib.hid hB
    have HLK := Lib.hid (alwaysK_len ms k)
    clear hrow
    by_cases hp : k < m0.length
    · obtain ⟨p, hp2⟩ : ∃ p, m0[k]? = some p := ⟨_, List.getElem?_eq_getElem (by omega)⟩
      obtain ⟨b3, o3, rfl, c1, c2⟩ := prs_at (HPR.out.below hB) hp2
      have HSN := Lib.hid (alwaysK_snoc HM0.out hp2)
      clear hp2 hB
      go_wp2_with fail
      obtain ⟨WB, hWB⟩ : ∃ W, W = wr := ⟨_, rfl⟩
      subst hWB
      obtain ⟨WC, hWC⟩ : ∃ W, W = WB.alloc (.cells #[.string p.1, .string p.2] 74) := ⟨_, rfl⟩
      have hbc : Below WB.heap.size WB WC := by rw [hWC]; exact (Below.refl _ _).alloc (Nat.le_refl _) _
      have hx : WC.heap[WB.heap.size]? = some (.cells #[.string p.1, .string p.2] 74 (0, 0)) := by rw [hWC]; exact heap_alloc_new WB _
      have hxl : WB.heap.size < WC.heap.size := (Array.getElem?_eq_some_iff.1 hx).1
      have HX := Lib.hid hx
      have BC := Lib.hid (HB.out.trans (hbc.mono HB.out.size))
      have RC := Lib.hid (row_below HR.out hbc)
      rw [← hWC]
      clear hWC hx hbc c1 c2
      go_loopw [6, 19] (fun ev j wr => ∃ t : Nat, t ≤ ms.length ∧ j = .int .i64 t ∧ ev = .bool ((ms.take t).all fun m => hasKey m p.1) ∧ Below WC.heap.size WC wr) (fun _ j _ => ms.length - (intOf j).toNat)
      case atStart => exact ⟨0, Nat.zero_le _, rfl, rfl, Below.refl _ _⟩
      case round =>
        obtain ⟨t, ht, rfl, rfl, hB2⟩ := hrel
        have B2 := Lib.hid hB2
        have BW := Lib.hid (BC.out.trans (hB2.mono BC.out.size))
        obtain ⟨ev, hev⟩ : ∃ b, b = (ms.take t).all fun m => hasKey m p.1 := ⟨_, rfl⟩
        rw [← hev]
        have HEV := Lib.hid hev
        clear hev
        by_cases hp' : t < ms.length
        · obtain ⟨m, hm⟩ : ∃ m, ms[t]? = some m := ⟨_, List.getElem?_eq_getElem (by omega)⟩
          obtain ⟨hml', b5, z5, u5, e5, hbl5, hcell5, hpr5⟩ := rws_at (HP.out.below BW.out) hm
          cases e5
          have HH := Lib.hid (all_snoc' (f := fun m => hasKey m p.1) hm)
          have HPR5 := Lib.hid hpr5
          obtain ⟨A5, c5, rfl, _, _⟩ := hpr5
          clear hm hB2
          cases ev with
          | false =>
            go_wp2_with fail
            exact ⟨⟨t + 1, by omega, by go_num, by rw [HH.out, ← HEV.out]; rfl, B2.out⟩, by show ms.length - ((t : Int) + 1).toNat < ms.length - (t : Int).toNat; omega⟩
          | true =>
            go_wp2_with fail
            have hx2 := (B2.out.block _ hxl).trans HX.out
            refine (containsf_always _ _ m p.1 WB.heap.size HPR5.out hml' (cell_of hx2 0) (Nat.lt_of_lt_of_le hxl B2.out.size)).mono ?_
            obtain ⟨hk', hhk⟩ : ∃ b, b = hasKey m p.1 := ⟨_, rfl⟩
            rw [← hhk]
            rintro e w4 ⟨rfl, hb4⟩
            have B4 := Lib.hid (B2.out.trans (hb4.mono B2.out.size))
            have HHK := Lib.hid hhk
            clear hb4 hhk hx2
            go_wp2_with fail
            exact ⟨⟨t + 1, by omega, by go_num, by rw [HH.out, ← HEV.out, HHK.out]; rfl, B4.out⟩, by show ms.length - ((t : Int) + 1).toNat < ms.length - (t : Int).toNat; omega⟩
        · have hev' : ev = everyB ms p.1 := by
            rw [HEV.out, List.take_of_length_le (by omega)]; rfl
          rw [← hev'] at HSN
          have hrow := row_below RC.out hB2
          have hx2 := (hB2.block _ hxl).trans HX.out
          have c0 := cell_of hx2 0
          have hsz := BW.out.size
          clear hev' hB2 HEV
          cases ev with
          | false =>
            clear hrow
            go_wp2_with fail
            exact ⟨⟨k + 1, by omega, by go_num, by rw [HSN.out]; simpa using row_below RC.out B2.out, BW.out⟩, by show m0.length - ((k : Int) + 1).toNat < m0.length - (k : Int).toNat; omega⟩
          | true =>
            have hlk : (alwaysK ms k).length ≤ k := HLK.out
            go_wp2_with (at_builtin; refine wpList_append_own _ rfl _ _ 103 rfl w.heap.size 9 i0 (.string ⟨#[]⟩) 1 16 Tryz.underlying103 hi hz0 hz1 hz2 rfl (by decide) _ _ _ rfl (hrow.alloc _) _ 1 1 [.string p.1] rfl rfl (cell_one_new _ _ _) (by simp [Value.oneCell']) (by simp [maxLen]; omega) (by omega) (by simp; omega) ?_; intro v9 w9 hown9 hgrow9 hnil9; have HO := Lib.hid hown9; have HG := Lib.hid hgrow9; clear hown9 hgrow9 hnil9)
            refine ⟨⟨k + 1, by omega, by go_num, ?_, (BW.out.alloc hsz _).grown HG.out (by simp; omega) (fun gg hgg => (World.ownsRow.lt hrow gg hgg).1)⟩, by show m0.length - ((k : Int) + 1).toNat < m0.length - (k : Int).toNat; omega⟩
            rw [HSN.out, if_pos rfl]
            have := HO.out
            simpa [Row, strs] using this
    · have hkk := alwaysK_all (k := k) HM0.out (by omega)
      have HKK := Lib.hid hkk
      clear hkk hB
      go_wp2_with fail
      go_ret
      exact ⟨_, rfl, by rw [← HKK.out]; exact HR.out, HB.out⟩

set_option maxRecDepth 100000 in
set_option maxHeartbeats 8000000 in
theorem right_any (w : World) (v u : Value) (l : List Pr) (ms : List (List Pr)) (h' : Prs w v l) (hl : l.length < 1000000) (h : Rws w u ms) (hn : ms.length < 1000000) (h0 : 0 < ms.length) (hm0 : (ms.headD []).length < 1000000) :
    Calls Tryz.prog 75 #[v, u] w fun e w' => e = .returned (.bool (rightM l ms)) ∧ Below w.heap.size w w' := by
  have HP := Lib.hid h'
  have HM := Lib.hid h
  obtain ⟨A, cap, rfl, _, _⟩ := h'
  obtain ⟨A2, cap2, rfl, _⟩ := h
  have CR := Lib.hid (right_spec w _ l HP.out hl)
  go_enter Tryz.func75, Tryz.ntmps75
  go_wp2_with fail
  refine CR.out.mono ?_
  cases hs : decide (Sorted l) with
  | false =>
    rintro e w1 ⟨rfl, n1, rfl⟩
    have HF := Lib.hid (show rightM l ms = false by unfold rightM; rw [hs]; rfl)
    clear hs
    go_wp2_with fail
    go_ret
    exact ⟨bool_ret HF.out.symm, below_drewN (Below.refl _ _) n1⟩
  | true =>
    rintro e w1 ⟨rfl, n1, hw1⟩
    have B1 := Lib.hid (show Below w.heap.size w w1 by rw [hw1]; exact below_drewN (Below.refl _ _) n1)
    have HS := Lib.hid hs
    clear hs hw1
    go_wp2_with fail
    go_loopw [14] (fun i wr => ∃ k : Nat, k ≤ l.length ∧ i = .int .i64 k ∧ ((l.take k).all fun x => ms.any fun m => hasPair m x) = true ∧ Below w.heap.size w wr) (fun i _ => l.length - (intOf i).toNat)
    case atStart => exact ⟨0, Nat.zero_le _, rfl, rfl, B1.out⟩
    case round =>
      obtain ⟨k, hk, rfl, hall, hB⟩ := hrel
      have HA := Lib.hid hall
      have HB := Lib.hid hB
      clear hall
      by_cases hp : k < l.length
      · obtain ⟨p, hp2⟩ : ∃ p, l[k]? = some p := ⟨_, List.getElem?_eq_getElem (by omega)⟩
        obtain ⟨b3, o3, rfl, c1, c2⟩ := prs_at (HP.out.below hB) hp2
        have HH := Lib.hid hp2
        clear hp2 hB
        go_wp2_with fail
        have hbc : Below wr.heap.size wr (wr.alloc (.cells #[.string p.1, .string p.2] 74)) := (Below.refl _ _).alloc (Nat.le_refl _) _
        have hx : (wr.alloc (.cells #[.string p.1, .string p.2] 74)).heap[wr.heap.size]? = some (.cells #[.string p.1, .string p.2] 74 (0, 0)) := heap_alloc_new wr _
        have BC := Lib.hid (HB.out.trans (hbc.mono HB.out.size))
        refine (containsf_row _ _ ms p.1 p.2 wr.heap.size (HM.out.below BC.out) hn (cell_of hx 0) (cell_of hx 1) (Array.getElem?_eq_some_iff.1 hx).1).mono ?_
        cases he : (ms.any fun m => hasPair m (p.1, p.2)) with
        | false =>
          rintro e w4 ⟨rfl, hb4⟩
          have B4 := Lib.hid (BC.out.trans (hb4.mono BC.out.size))
          have HF := Lib.hid (show rightM l ms = false by unfold rightM; rw [all_bad HH.out he]; simp)
          clear hb4 he hx hbc
          go_wp2_with fail
          go_ret
          exact ⟨bool_ret HF.out.symm, B4.out⟩
        | true =>
          rintro e w4 ⟨rfl, hb4⟩
          have B4 := Lib.hid (BC.out.trans (hb4.mono BC.out.size))
          have HT := Lib.hid (show ((l.take (k + 1)).all fun x => ms.any fun m => hasPair m x) = true by rw [all_snoc HH.out HA.out]; exact he)
          clear hb4 he hx hbc
          go_wp2_with fail
          exact ⟨⟨k + 1, by omega, by go_num, HT.out, B4.out⟩, by show l.length - ((k : Int) + 1).toNat < l.length - (k : Int).toNat; omega⟩
      · have hA := HA.out
        rw [List.take_of_length_le (by omega)] at hA
        have HAA := Lib.hid hA
        clear hA HA hB
        go_wp2_with fail
        refine (always_any _ _ ms (HM.out.below HB.out) hn h0).mono ?_
        rintro e w2 ⟨v2, rfl, hr2, hb2⟩
        have B2 := Lib.hid (HB.out.trans (hb2.mono HB.out.size))
        have HR2 := Lib.hid hr2
        obtain ⟨A6, c6, e6⟩ := owns_shape hr2
        subst e6
        have hal : (alwaysM ms).length < 1000000 := by
          rw [← alwaysK_all (ms := ms) (k := (ms.headD []).length) rfl (Nat.le_refl _)]
          exact Nat.lt_of_le_of_lt (alwaysK_len _ _) hm0
        clear hr2 hb2
        go_wp2_with fail
        clear hk hp
        go_loopw [26] (fun i wr => ∃ k : Nat, k ≤ (alwaysM ms).length ∧ i = .int .i64 k ∧ ((alwaysM ms).take k).all (hasKey l) = true ∧ Below w2.heap.size w2 wr) (fun i _ => (alwaysM ms).length - (intOf i).toNat)
        case atStart => exact ⟨0, Nat.zero_le _, rfl, rfl, Below.refl _ _⟩
        case round =>
          obtain ⟨k, hk, rfl, hall, hB⟩ := hrel
          have HA := Lib.hid hall
          have HB2 := Lib.hid hB
          have BW := Lib.hid (B2.out.trans (hB.mono B2.out.size))
          clear hall
          by_cases hp : k < (alwaysM ms).length
          · obtain ⟨x, hx2⟩ : ∃ x, (alwaysM ms)[k]? = some x := ⟨_, List.getElem?_eq_getElem (by omega)⟩
            have HH := Lib.hid hx2
            rcases Row.parts (row_below HR2.out hB) with ⟨e1, e2⟩ | ⟨b7, cap7, rest7, e7, _, hh7, _, _⟩
            · rw [e2] at hp; exact absurd hp (by simp)
            cases e7
            have c7 := Row.cell hh7 k (.string x) (by simp [hx2])
            rw [Nat.zero_add] at c7
            clear hx2 hB hh7
            go_wp2_with fail
            have hbc : Below wr.heap.size wr (wr.alloc (.cells #[.string x] 9)) := (Below.refl _ _).alloc (Nat.le_refl _) _
            have hx : (wr.alloc (.cells #[.string x] 9)).heap[wr.heap.size]? = some (.cells #[.string x] 9 (0, 0)) := heap_alloc_new wr _
            have BC := Lib.hid (BW.out.trans (hbc.mono BW.out.size))
            refine (containsf_key _ _ l x wr.heap.size (HP.out.below BC.out) hl (cell_of hx 0) (Array.getElem?_eq_some_iff.1 hx).1).mono ?_
            have B2C := Lib.hid (HB2.out.trans (hbc.mono HB2.out.size))
            cases he : hasKey l x with
            | false =>
              rintro e w4 ⟨rfl, hb4⟩
              have B4 := Lib.hid (BC.out.trans (hb4.mono BC.out.size))
              have HF := Lib.hid (show rightM l ms = false by unfold rightM; rw [all_bad HH.out he]; simp)
              clear hb4 he hx hbc
              go_wp2_with fail
              go_ret
              exact ⟨bool_ret HF.out.symm, B4.out⟩
            | true =>
              rintro e w4 ⟨rfl, hb4⟩
              have B4 := Lib.hid (B2C.out.trans (hb4.mono B2C.out.size))
              have HT := Lib.hid (show ((alwaysM ms).take (k + 1)).all (hasKey l) = true by rw [all_snoc HH.out HA.out]; exact he)
              clear hb4 he hx hbc
              go_wp2_with fail
              exact ⟨⟨k + 1, by omega, by go_num, HT.out, B4.out⟩, by show (alwaysM ms).length - ((k : Int) + 1).toNat < (alwaysM ms).length - (k : Int).toNat; omega⟩
          · have hA2 := HA.out
            rw [List.take_of_length_le (by omega)] at hA2
            have HT := Lib.hid (show rightM l ms = true by unfold rightM; rw [hA2, HAA.out, HS.out]; rfl)
            clear hA2 HA hB
            go_wp2_with fail
            go_ret
            exact ⟨bool_ret HT.out.symm, BW.out⟩
end Go.Proofs.YtdhgacionopghaaGreatDoor.Od
