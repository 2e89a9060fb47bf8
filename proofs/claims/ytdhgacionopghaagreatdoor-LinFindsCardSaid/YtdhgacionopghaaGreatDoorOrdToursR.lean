/- order: the reference's Right, Tours. -/
import Derived.Test.YtdhgacionopghaaGreatDoorOrdTours
import Derived.Test.YtdhgacionopghaaGreatDoorOrdSpanR
import Derived.Deep.RegionHeld3
namespace Go.Proofs.YtdhgacionopghaaGreatDoor.Od
open Go.RowKit Go.Shelf Dc DcM DcW DcI DcR DcL Sp
set_option linter.unusedVariables false
set_option linter.unusedSimpArgs false
theorem dget_key (m : List Pr) (k : ByteArray) : (dget m k).2 = hasKey m k := by
  unfold dget hasKey at_
  induction m with
  | nil => rfl
  | cons p t ih =>
    by_cases h : p.1 = k
    · simp [List.filter_cons, h]
    · simp only [List.filter_cons, h, decide_false, List.any_cons, Bool.false_or]
      exact ih
theorem dget_pair {m : List Pr} (hs : Sorted m) (p : Pr) : ((dget m p.1).2 && decide ((dget m p.1).1 = p.2)) = hasPair m p := by
  rw [Bool.eq_iff_iff]
  simp only [hasPair, Bool.and_eq_true, decide_eq_true_eq, List.any_eq_true]
  constructor
  · rintro ⟨h1, h2⟩
    rcases at_cases (k := p.1) hs with ha | ⟨v, ha⟩
    · rw [dget_none ha] at h1; cases h1
    · have hm : (p.1, v) ∈ at_ p.1 m := by rw [ha]; simp
      have hv : v = p.2 := by
        have := h2
        unfold dget at this; rw [ha] at this; exact this
      exact ⟨(p.1, v), (List.mem_filter.1 hm).1, by rw [hv]⟩
  · rintro ⟨q, hq, rfl⟩
    have hm : q ∈ at_ q.1 m := List.mem_filter.2 ⟨hq, by simp⟩
    rcases at_cases (k := q.1) hs with ha | ⟨v, ha⟩
    · rw [ha] at hm; cases hm
    · rw [ha] at hm
      simp only [List.mem_singleton] at hm
      unfold dget; rw [ha]
      exact ⟨rfl, by rw [hm]⟩
theorem alwaysK_mono (ms : List (List Pr)) {a b : Nat} (h : a ≤ b) : alwaysK ms a <+: alwaysK ms b := by
  unfold alwaysK
  refine List.IsPrefix.map _ (List.IsPrefix.filter _ ?_)
  exact List.take_prefix_take_left h
theorem any_snoc' {α : Type} {l : List α} {k : Nat} {q : α} {f : α → Bool} (hq : l[k]? = some q) : (l.take (k + 1)).any f = ((l.take k).any f || f q) := by
  rw [List.take_add_one, hq, List.any_append]; simp

set_option maxRecDepth 100000 in
set_option maxHeartbeats 16000000 in
theorem rightR_any (w : World) (v u : Value) (l : List CV) (row : List Int) (nt : Nat) (q : CV) (h : Cls w v l) (h' : Its w u row) (hn : l.length < 1000000) (hn' : row.length < 10000) (hq : l[nt]? = some q) (hlq : q.1.reply.pairs.length < 100000) :
    Calls Tryz.prog 38 #[v, u, .int .i64 nt] w fun e w' => e = .returned (.bool (tourOk l row nt q.1.reply.pairs)) ∧ Below w.heap.size w w' := by
  have HL := Lib.hid h
  have HRR := Lib.hid h'
  have CS := Lib.hid (span_ref w v u l row nt h h' hn hn')
  have CBH := Lib.hid (fun W (hw : Below w.heap.size w W) (p : Nat) (hp : p ≤ row.length) => behind_ref W v u l row p (HL.out.below hw) (HRR.out.below hw) hn hn' hp)
  obtain ⟨A, cap, rfl, hcl⟩ := h
  obtain ⟨B, capB, rfl, _, _⟩ := h'
  obtain ⟨hpq, _, _, _, _, b2, z2, rfl, hbl2, hcq⟩ := hcl nt q hq
  obtain ⟨Ap, cp, ep, _⟩ := id hpq
  have hntl := (List.getElem?_eq_some_iff.1 hq).1
  rw [ep] at hcq
  have HPQ := Lib.hid hpq
  have hcell : w.cell? ⟨b2, z2 + nt * 15 + 14, none⟩ = some (.slice Ap q.1.reply.pairs.length cp) := hcq 14 _ rfl
  have HCE := Lib.hid hcell
  rw [ep] at HPQ
  clear hcl hq hpq hcq hcell ep
  obtain ⟨⟨ct, ci, ⟨ok, okey, oval, oold⟩, cb, ce, cd, ⟨re, rh, rd, rv, rn, rp⟩⟩, pv⟩ := q
  dsimp only at hlq HPQ HCE ⊢
  obtain ⟨fr, hfr⟩ : ∃ f, f = spanF l row (nt : Int) := ⟨_, rfl⟩
  obtain ⟨tt, htt⟩ : ∃ f, f = spanT l row (nt : Int) := ⟨_, rfl⟩
  have htl : tt ≤ row.length := by rw [htt]; exact spanT_le l row _
  have HOK := Lib.hid (show tourOk l row (nt : Int) rp = (decide (fr ≤ tt) && rightM rp (mapsIn l row fr tt)) by unfold tourOk; rw [hfr, htt])
  rw [← hfr, ← htt] at CS
  clear hfr htt
  go_enter Tryz.func38, Tryz.ntmps38
  go_wp2_with fail
  refine CS.out.mono ?_
  rintro e w1 ⟨rfl, hb1⟩
  have B1 := Lib.hid hb1
  have hcell := (hb1.cell (p := ⟨b2, z2 + nt * 15 + 14, none⟩) hbl2).trans HCE.out
  clear hb1
  by_cases hft : fr ≤ tt
  case neg =>
    have hd1 : decide ((tt : Int) < (fr : Int)) = true := by rw [decide_eq_true_eq]; omega
    have hd2 : decide (tt < fr) = true := by rw [decide_eq_true_eq]; omega
    have HF := Lib.hid (show tourOk l row (nt : Int) rp = false by rw [HOK.out, decide_eq_false hft]; rfl)
    go_wp2_with fail
    go_ret
    exact ⟨bool_ret HF.out.symm, B1.out⟩
  have hd1 : decide ((tt : Int) < (fr : Int)) = false := by rw [decide_eq_false_iff_not]; omega
  have hd2 : decide (tt < fr) = false := by rw [decide_eq_false_iff_not]; omega
  have HOK2 := Lib.hid (HOK.out.trans (by rw [decide_eq_true hft, Bool.true_and]))
  go_wp2_with fail
  refine (right_ref' _ _ rp (HPQ.out.below B1.out) (by omega)).mono ?_
  cases hs : decide (Sorted rp) with
  | false =>
    rintro e w2 ⟨rfl, n2, rfl⟩
    have HF := Lib.hid (show tourOk l row (nt : Int) rp = false by rw [HOK2.out]; unfold rightM; rw [hs]; rfl)
    clear hs
    go_wp2_with fail
    go_ret
    exact ⟨bool_ret HF.out.symm, below_drewN B1.out n2⟩
  | true =>
    rintro e w2 ⟨rfl, n2, hw2⟩
    have B2 := Lib.hid (show Below w.heap.size w w2 by rw [hw2]; exact below_drewN B1.out n2)
    have HS := Lib.hid hs
    have HIL := Lib.hid (mapsIn_len (l := l) hft htl)
    clear hs hw2 hcell
    go_wp2_with fail
    go_loopw [10] (fun i wr => ∃ k : Nat, k ≤ rp.length ∧ i = .int .i64 k ∧ ((rp.take k).all fun x => (mapsIn l row fr tt).any fun m => hasPair m x) = true ∧ Below w.heap.size w wr) (fun i _ => rp.length - (intOf i).toNat)
    case atStart => exact ⟨0, Nat.zero_le _, rfl, rfl, B2.out⟩
    case round =>
      obtain ⟨k, hk, rfl, hall, hB⟩ := hrel
      have HA := Lib.hid hall
      have HB := Lib.hid hB
      clear hall
      by_cases hp : k < rp.length
      · obtain ⟨p, hp2⟩ : ∃ p, rp[k]? = some p := ⟨_, List.getElem?_eq_getElem hp⟩
        have HP2 := Lib.hid hp2
        clear hp2 hB
        go_wp2_with fail
        obtain ⟨WB, hWB⟩ : ∃ W, W = wr := ⟨_, rfl⟩
        subst hWB
        go_loopw [11, 12] (fun sv i wr => ∃ t : Nat, fr + t ≤ tt + 1 ∧ i = .int .i64 ((fr + t : Nat) : Int) ∧ sv = .bool (((mapsIn l row fr tt).take t).any fun m => hasPair m p) ∧ Below WB.heap.size WB wr) (fun _ i _ => tt + 1 - (intOf i).toNat)
        case atStart => exact ⟨0, by omega, by rw [Nat.add_zero], rfl, Below.refl _ _⟩
        case round =>
          obtain ⟨t, ht, rfl, rfl, hB2⟩ := hrel
          have HB2 := Lib.hid hB2
          have BW := Lib.hid (HB.out.trans (hB2.mono HB.out.size))
          obtain ⟨sm, hsm⟩ : ∃ b, b = ((mapsIn l row fr tt).take t).any fun m => hasPair m p := ⟨_, rfl⟩
          rw [← hsm]
          have HSM := Lib.hid hsm
          clear hsm
          by_cases hp' : fr + t ≤ tt
          · obtain ⟨kk, hkk⟩ : ∃ kk : Nat, kk = fr + t := ⟨_, rfl⟩
            rw [← hkk]
            have HM := Lib.hid (mapsIn_at (l := l) (j := t) htl hp')
            have HSO := Lib.hid (sorted_behind l (row.take kk) [] List.Pairwise.nil)
            have hml := behind_small l row kk hn'
            obtain ⟨b3, o3, e3, c1, c2⟩ := prs_at (HPQ.out.below BW.out) HP2.out
            subst e3
            have hkt : kk ≤ tt := by omega
            have hkr : kk ≤ row.length := by omega
            rw [← hkk] at HM
            obtain ⟨md, hmd⟩ : ∃ m, m = behindM l (row.take kk) := ⟨_, rfl⟩
            have CBH2 := Lib.hid (CBH.out wr.drew BW.out.drew kk hkr)
            rw [← hmd] at HM hml CBH2
            have HSM2 := Lib.hid (show Sorted md by rw [hmd]; exact HSO.out)
            have HST := Lib.hid (any_snoc' (f := fun m => hasPair m p) HM.out)
            have HDP := Lib.hid (dget_pair HSM2.out p)
            have hkl : k < rp.length := hp
            have HKK := Lib.hid hkk
            clear hmd hkk hB2
            go_wp2_with fail
            have hb3l : b3 < wr.heap.size := World.block_lt_of_cell? wr _ c1
            have c2' := c2
            have C2 := Lib.hid c2'
            have C1 := Lib.hid c1
            clear c2 c2'
            go_region_held3 (fun w' => w'.cell? ⟨b3, o3 + k * 2, none⟩ = some (.string p.1))
              (first | (with_reducible assumption) | go_keep)
              (first
                | (go_at_call 28; refine CBH2.out.mono ?_; rintro e w3 ⟨v3, rfl, hp3, hb3⟩; have d1 := (hb3.cell (p := ⟨b3, o3 + k * 2, none⟩) hb3l).trans C1.out; have d2 := (hb3.cell (p := ⟨b3, o3 + k * 2 + 1, none⟩) hb3l).trans C2.out; have P3 := Lib.hid hp3; have H3 := Lib.hid hb3; have D2 := Lib.hid d2; clear hp3 hb3 d2)
                | (go_at_call 51; refine (get_ref w3 _ md p.1 P3.out hml).mono ?_; rintro e w4 ⟨rfl, hw4⟩; subst hw4))
            have BW4 := Lib.hid (BW.out.drew.trans (H3.out.mono BW.out.size))
            have B24 := Lib.hid (HB2.out.drew.trans (H3.out.mono HB2.out.size))
            obtain ⟨gv, hgv⟩ : ∃ x, x = (dget md p.1).1 := ⟨_, rfl⟩
            obtain ⟨gi, hgi⟩ : ∃ x, x = (dget md p.1).2 := ⟨_, rfl⟩
            rw [← hgv, ← hgi] at HDP
            rw [← hgv, ← hgi]
            have d2 := D2.out
            clear hgv hgi c1 d1
            have HNX := Lib.hid (show ((mapsIn l row fr tt).take (t + 1)).any (fun m => hasPair m p) = (sm || (gi && decide (gv = p.2))) by rw [HST.out, HDP.out, HSM.out])
            have hkn : kk + 1 = fr + (t + 1) := by rw [HKK.out]; omega
            have HKN := Lib.hid hkn
            clear hkn
            have hmea : tt + 1 - ((kk : Int) + 1).toNat < tt + 1 - (kk : Int).toNat := by omega
            cases sm with
            | true =>
              go_wp2_with fail
              exact ⟨⟨t + 1, by omega, by rw [← HKN.out]; try go_num, by rw [HNX.out]; rfl, B24.out⟩, hmea⟩
            | false =>
              cases gi with
              | false =>
                go_wp2_with fail
                exact ⟨⟨t + 1, by omega, by rw [← HKN.out]; try go_num, by rw [HNX.out]; rfl, B24.out⟩, hmea⟩
              | true =>
                by_cases hv : gv = p.2
                · have hb : (gv.toList == p.2.toList) = true := by rw [hv]; exact beq_self_eq_true _
                  have HNX2 := Lib.hid (show ((mapsIn l row fr tt).take (t + 1)).any (fun m => hasPair m p) = true by rw [HNX.out, decide_eq_true hv]; rfl)
                  clear hv
                  go_wp2_with fail
                  exact ⟨⟨t + 1, by omega, by rw [← HKN.out]; try go_num, by rw [HNX2.out], B24.out⟩, hmea⟩
                · have hb : (gv.toList == p.2.toList) = false := by rw [beq_lists, decide_eq_false hv]
                  have HNX2 := Lib.hid (show ((mapsIn l row fr tt).take (t + 1)).any (fun m => hasPair m p) = false by rw [HNX.out, decide_eq_false hv]; rfl)
                  clear hv
                  go_wp2_with fail
                  exact ⟨⟨t + 1, by omega, by rw [← HKN.out]; try go_num, by rw [HNX2.out], B24.out⟩, hmea⟩
          · have htt1 : fr + t = tt + 1 := by omega
            have HE := Lib.hid (show ((mapsIn l row fr tt).any fun m => hasPair m p) = sm by
              rw [HSM.out, List.take_of_length_le (by rw [HIL.out]; omega)])
            have hgt : ¬ ((fr + t : Nat) : Int) ≤ (tt : Int) := by omega
            clear hB2
            cases sm with
            | false =>
              have HF := Lib.hid (show tourOk l row (nt : Int) rp = false by rw [HOK2.out]; unfold rightM; rw [all_bad HP2.out HE.out]; simp)
              go_wp2_with fail
              go_ret
              exact ⟨bool_ret HF.out.symm, BW.out⟩
            | true =>
              have HT := Lib.hid (show ((rp.take (k + 1)).all fun x => (mapsIn l row fr tt).any fun m => hasPair m x) = true by rw [all_snoc HP2.out HA.out]; exact HE.out)
              go_wp2_with fail
              exact ⟨⟨k + 1, by omega, by go_num, HT.out, BW.out⟩, by show rp.length - ((k : Int) + 1).toNat < rp.length - (k : Int).toNat; omega⟩
      · have hA := HA.out
        rw [List.take_of_length_le (by omega)] at hA
        have HAA := Lib.hid hA
        clear hA HA hB
        have hfl : fr ≤ row.length := by omega
        have CB0 := Lib.hid (CBH.out wr HB.out fr hfl)
        go_wp2_with fail
        clear hk hp
        refine CB0.out.mono ?_
        rintro e w3 ⟨v3, rfl, hp3, hb3⟩
        have HIH := Lib.hid (mapsIn_head (l := l) hft htl)
        have hm0l := behind_small l row fr hn'
        obtain ⟨m0, hm0⟩ : ∃ m, m = behindM l (row.take fr) := ⟨_, rfl⟩
        rw [← hm0] at hp3 HIH hm0l
        have P3 := Lib.hid hp3
        obtain ⟨A3, c3, e3, _⟩ := hp3
        subst e3
        have B3 := Lib.hid (HB.out.trans (hb3.mono HB.out.size))
        clear hm0 hb3
        go_wp2_with fail
        go_loopw [16] (fun i wr => ∃ k : Nat, k ≤ m0.length ∧ i = .int .i64 k ∧ (alwaysK (mapsIn l row fr tt) k).all (hasKey rp) = true ∧ Below w3.heap.size w3 wr) (fun i _ => m0.length - (intOf i).toNat)
        case atStart => exact ⟨0, Nat.zero_le _, rfl, rfl, Below.refl _ _⟩
        case round =>
          obtain ⟨k, hk, rfl, hall, hB⟩ := hrel
          have HA := Lib.hid hall
          have HBB := Lib.hid hB
          have BW3 := Lib.hid (B3.out.trans (hB.mono B3.out.size))
          clear hall
          by_cases hp : k < m0.length
          · obtain ⟨p, hp2⟩ : ∃ p, m0[k]? = some p := ⟨_, List.getElem?_eq_getElem hp⟩
            have HP2 := Lib.hid hp2
            have HSN := Lib.hid (alwaysK_snoc HIH.out hp2)
            clear hp2 hB
            go_wp2_with fail
            obtain ⟨WB, hWB⟩ : ∃ W, W = wr := ⟨_, rfl⟩
            subst hWB
            go_loopw [17, 18] (fun sv i wr => ∃ t : Nat, fr + t ≤ tt + 1 ∧ i = .int .i64 ((fr + t : Nat) : Int) ∧ sv = .bool (((mapsIn l row fr tt).take t).all fun m => hasKey m p.1) ∧ Below WB.heap.size WB wr) (fun _ i _ => tt + 1 - (intOf i).toNat)
            case atStart => exact ⟨0, by omega, by rw [Nat.add_zero], rfl, Below.refl _ _⟩
            case round =>
              obtain ⟨t, ht, rfl, rfl, hB2⟩ := hrel
              have HB2 := Lib.hid hB2
              have BW := Lib.hid (BW3.out.trans (hB2.mono BW3.out.size))
              have B3W := Lib.hid (HBB.out.trans (hB2.mono HBB.out.size))
              obtain ⟨sm, hsm⟩ : ∃ b, b = ((mapsIn l row fr tt).take t).all fun m => hasKey m p.1 := ⟨_, rfl⟩
              rw [← hsm]
              have HSM := Lib.hid hsm
              clear hsm
              obtain ⟨b3, o3, e3, c1, c2⟩ := prs_at (P3.out.below B3W.out) HP2.out
              subst e3
              by_cases hp' : fr + t ≤ tt
              · obtain ⟨kk, hkk⟩ : ∃ kk : Nat, kk = fr + t := ⟨_, rfl⟩
                rw [← hkk]
                have HM := Lib.hid (mapsIn_at (l := l) (j := t) htl hp')
                have hml := behind_small l row kk hn'
                have hkt : kk ≤ tt := by omega
                have hkr : kk ≤ row.length := by omega
                rw [← hkk] at HM
                obtain ⟨md, hmd⟩ : ∃ m, m = behindM l (row.take kk) := ⟨_, rfl⟩
                have CBH2 := Lib.hid (CBH.out wr.drew BW.out.drew kk hkr)
                rw [← hmd] at HM hml CBH2
                have HST := Lib.hid (all_snoc' (f := fun m => hasKey m p.1) HM.out)
                have HDP := Lib.hid (dget_key md p.1)
                have hkl : k < m0.length := hp
                have HKK := Lib.hid hkk
                clear hmd hkk hB2
                go_wp2_with fail
                have hb3l : b3 < wr.heap.size := World.block_lt_of_cell? wr _ c1
                have C1 := Lib.hid c1
                clear c2
                go_region_held3 (fun w' => w'.cell? ⟨b3, o3 + k * 2, none⟩ = some (.string p.1))
                  (first | (with_reducible assumption) | go_keep)
                  (first
                    | (go_at_call 28; refine CBH2.out.mono ?_; rintro e w4 ⟨v4, rfl, hp4, hb4⟩; have d1 := (hb4.cell (p := ⟨b3, o3 + k * 2, none⟩) hb3l).trans C1.out; have P4 := Lib.hid hp4; have H4 := Lib.hid hb4; clear hp4 hb4)
                    | (go_at_call 51; refine (get_ref w4 _ md p.1 P4.out hml).mono ?_; rintro e w5 ⟨rfl, hw5⟩; subst hw5))
                have BW4 := Lib.hid (BW.out.drew.trans (H4.out.mono BW.out.size))
                have B24 := Lib.hid (HB2.out.drew.trans (H4.out.mono HB2.out.size))
                obtain ⟨gv, hgv⟩ : ∃ x, x = (dget md p.1).1 := ⟨_, rfl⟩
                obtain ⟨gi, hgi⟩ : ∃ x, x = (dget md p.1).2 := ⟨_, rfl⟩
                rw [← hgi] at HDP
                rw [← hgv, ← hgi]
                clear hgv hgi c1 d1
                have HNX := Lib.hid (show ((mapsIn l row fr tt).take (t + 1)).all (fun m => hasKey m p.1) = (sm && gi) by rw [HST.out, ← HDP.out, HSM.out])
                have HKN := Lib.hid (show kk + 1 = fr + (t + 1) by rw [HKK.out]; omega)
                have hmea : tt + 1 - ((kk : Int) + 1).toNat < tt + 1 - (kk : Int).toNat := by omega
                cases sm with
                | true =>
                  go_wp2_with fail
                  exact ⟨⟨t + 1, by omega, by rw [← HKN.out]; try go_num, by rw [HNX.out]; rfl, B24.out⟩, hmea⟩
                | false =>
                  go_wp2_with fail
                  exact ⟨⟨t + 1, by omega, by rw [← HKN.out]; try go_num, by rw [HNX.out]; rfl, B24.out⟩, hmea⟩
              · have hev : sm = everyB (mapsIn l row fr tt) p.1 := by
                  rw [HSM.out, List.take_of_length_le (by rw [HIL.out]; omega)]; rfl
                rw [← hev] at HSN
                have hgt : ¬ ((fr + t : Nat) : Int) ≤ (tt : Int) := by omega
                have HGR := Lib.hid (get_ref wr _ rp p.1 (HPQ.out.below BW.out) (by omega))
                obtain ⟨tv, htv⟩ : ∃ x, x = (dget rp p.1).1 := ⟨_, rfl⟩
                obtain ⟨ti, hti⟩ : ∃ x, x = (dget rp p.1).2 := ⟨_, rfl⟩
                rw [← htv, ← hti] at HGR
                have HTI := Lib.hid (hti.trans (dget_key rp p.1))
                clear hev hB2 htv hti
                go_wp2_with fail
                refine HGR.out.mono ?_
                rintro e w6 ⟨rfl, hw6⟩
                subst hw6
                clear c1 c2
                cases sm with
                | false =>
                  have HN := Lib.hid (show (alwaysK (mapsIn l row fr tt) (k + 1)).all (hasKey rp) = true by rw [HSN.out, List.all_append, HA.out]; rfl)
                  go_wp2_with fail
                  exact ⟨⟨k + 1, by omega, by go_num, HN.out, B3W.out⟩, by show m0.length - ((k : Int) + 1).toNat < m0.length - (k : Int).toNat; omega⟩
                | true =>
                  cases ti with
                  | true =>
                    have HN := Lib.hid (show (alwaysK (mapsIn l row fr tt) (k + 1)).all (hasKey rp) = true by rw [HSN.out, List.all_append, HA.out]; simp [← HTI.out])
                    go_wp2_with fail
                    exact ⟨⟨k + 1, by omega, by go_num, HN.out, B3W.out⟩, by show m0.length - ((k : Int) + 1).toNat < m0.length - (k : Int).toNat; omega⟩
                  | false =>
                    have HF := Lib.hid (show tourOk l row (nt : Int) rp = false by
                      rw [HOK2.out]
                      unfold rightM
                      have : (alwaysM (mapsIn l row fr tt)).all (hasKey rp) = false := by
                        rw [List.all_eq_false]
                        refine ⟨p.1, ?_, by rw [← HTI.out]; decide⟩
                        rw [← alwaysK_all HIH.out (Nat.le_refl _)]
                        have hpre : alwaysK (mapsIn l row fr tt) (k + 1) <+: alwaysK (mapsIn l row fr tt) m0.length := alwaysK_mono _ (by omega)
                        refine hpre.subset ?_
                        rw [HSN.out]; simp
                      rw [this, Bool.and_false])
                    go_wp2_with fail
                    go_ret
                    exact ⟨bool_ret HF.out.symm, BW.out⟩
          · have hT := HA.out
            rw [alwaysK_all HIH.out (by omega)] at hT
            have HT := Lib.hid (show tourOk l row (nt : Int) rp = true by rw [HOK2.out]; unfold rightM; rw [hT, HAA.out, HS.out]; rfl)
            clear hT hB
            go_wp2_with fail
            go_ret
            exact ⟨bool_ret HT.out.symm, BW3.out⟩
end Go.Proofs.YtdhgacionopghaaGreatDoor.Od
