/- ref41.Parse: the walk. -/
import Derived.Outline
import Derived.Test.YtdibkhddhgaghaaDoorHistRLine
import Derived.Test.YtdibkhddhgaghaaDoorHistRefR
import Derived.Test.YtdibkhddhgaghaaDoorHistParse
namespace Go.Proofs.YtdibkhddhgaghaaDoor.Hs
open Go.RowKit
set_option linter.unusedVariables false
set_option linter.unusedSimpArgs false
/-- The text of the lines from the n-th on. -/
def remS (ps : List ByteArray) (n : Nat) : ByteArray := ⟨(Tx.jn 10 ((ps.drop n).map (·.data.toList))).toArray⟩
theorem ba_eta (x : ByteArray) : (⟨x.data.toList.toArray⟩ : ByteArray) = x := by cases x; simp
theorem remS_zero (s : ByteArray) : remS (Pt.parts 10 s) 0 = s := by
  unfold remS
  rw [List.drop_zero, Pt.parts_data, Tx.sp_back]
  try exact ba_eta s
theorem remS_last {ps : List ByteArray} {n : Nat} {p : ByteArray} (h : ps[n]? = some p) (hl : n + 1 = ps.length) : remS ps n = p := by
  obtain ⟨hn, rfl⟩ := List.getElem?_eq_some_iff.1 h
  unfold remS
  rw [List.drop_eq_getElem_cons hn, List.drop_eq_nil_of_le (by omega)]
  try exact ba_eta _
theorem remS_more {ps : List ByteArray} {n : Nat} {p : ByteArray} (h : ps[n]? = some p) (hl : n + 1 < ps.length) : (remS ps n).data.toList = p.data.toList ++ 10 :: (remS ps (n + 1)).data.toList := by
  obtain ⟨hn, rfl⟩ := List.getElem?_eq_some_iff.1 h
  unfold remS
  rw [List.drop_eq_getElem_cons hn, List.drop_eq_getElem_cons hl, List.map_cons, List.map_cons]
  rfl
theorem parts_no (s : ByteArray) : ∀ p ∈ Pt.parts 10 s, (10 : UInt8) ∉ p.data.toList := by
  intro p hp
  have h1 : p.data.toList ∈ (Pt.parts 10 s).map (·.data.toList) := List.mem_map_of_mem hp
  rw [Pt.parts_data] at h1
  exact Tx.sp_mem _ _ (Nat.le_refl _) _ h1
theorem parts_small (s : ByteArray) : ∀ p ∈ Pt.parts 10 s, p.size ≤ s.size := by
  intro p hp
  have h1 : p.data.toList ∈ (Pt.parts 10 s).map (·.data.toList) := List.mem_map_of_mem hp
  rw [Pt.parts_data] at h1
  have := sp_small 10 _ s.data.toList (Nat.le_refl _) _ h1
  rw [DgW.size_list, DgW.size_list] at this
  exact this
theorem parts_pos (s : ByteArray) : 0 < (Pt.parts 10 s).length := by
  have h := Tx.sp_ne 10 s.data.toList
  rw [← Pt.parts_data] at h
  cases hp : Pt.parts 10 s with
  | nil => rw [hp] at h; exact absurd rfl h
  | cons _ _ => simp
theorem cut_last {ps : List ByteArray} {n : Nat} {p : ByteArray} (h : ps[n]? = some p) (hl : n + 1 = ps.length) (hno : (10 : UInt8) ∉ p.data.toList) : (cutL (remS ps n)).2.2 = false := by
  rw [remS_last h hl]
  unfold cutL
  rw [Tx.cut_miss hno]
theorem cut_more {ps : List ByteArray} {n : Nat} {p : ByteArray} (h : ps[n]? = some p) (hl : n + 1 < ps.length) (hno : (10 : UInt8) ∉ p.data.toList) : cutL (remS ps n) = (p.data.toList, (remS ps (n + 1)).data.toList, true) := by
  unfold cutL
  rw [remS_more h hl]
  exact Tx.cut_hit hno
theorem rem_size {ps : List ByteArray} {n : Nat} {p : ByteArray} (h : ps[n]? = some p) (hl : n + 1 < ps.length) : (remS ps n).size = p.size + 1 + (remS ps (n + 1)).size := by
  have := congrArg List.length (remS_more h hl)
  rw [List.length_append, List.length_cons, DgW.size_list, DgW.size_list, DgW.size_list] at this
  omega
theorem zeroCall_pairs : zeroCall.reply.pairs = [] := rfl
theorem lineR_fit {s : ByteArray} (h : s.size ≤ 2000000) : Fit (lineR (words s)).1 := by
  cases hb : (lineR (words s)).2 with
  | true => rw [← lineR_ok hb]; exact call_fit s h
  | false =>
    have : (lineR (words s)).1 = zeroCall := by
      unfold lineR at hb ⊢
      split at hb
      · cases hb
      · rename_i hh; rw [if_neg hh]
    rw [this]
    exact ⟨by decide, ⟨by decide, by decide⟩, by decide, by decide⟩
set_option maxRecDepth 100000 in
set_option maxHeartbeats 16000000 in
theorem rparse_any (w : World) (s0 : ByteArray) (hs : s0.size ≤ 1000000) : Calls Tryd.prog 17 #[.string s0] w (ParsePost s0 w) := by
  have HSP := Lib.hid (fun W => show Calls Tryd.prog 43 #[.string s0, .int .u8 10] W fun e w' => ∃ v, e = .returned v ∧ w'.ownsRow W.heap.size 9 1 v (Pt.parts 10 s0).length (strs (Pt.parts 10 s0)) ∧ Below W.heap.size W w' from Pt.parts_any W s0 10 (by omega))
  have HZ := Lib.hid (remS_zero s0)
  have HNO := Lib.hid (parts_no s0)
  have HSM := Lib.hid (parts_small s0)
  have hpos := parts_pos s0
  have hlen0 : (Pt.parts 10 s0).length ≤ 1000001 := by
    have h1 := congrArg List.length (Pt.parts_data 10 s0)
    have h2 := Pt.pt_len 10 s0 (s0.size + 1)
    rw [Pt.pt_end] at h2
    omega
  generalize Pt.parts 10 s0 = ps at *
  obtain ⟨i0, hi, hz0, hz1, hz2⟩ := info_parts infoC
  go_enter Tryd.func17, Tryd.ntmps17
  go_wp2_with fail
  refine (HSP.out _).mono ?_
  rintro e w2 ⟨lv, rfl, hown, hb⟩
  obtain ⟨gl, cl, rfl⟩ := own_pos hown hpos
  have HLC := Lib.hid (row_cell hown)
  have HB2 := Lib.hid (show Below w.heap.size w w2 from ((Below.refl _ _).alloc (Nat.le_refl _) _).trans (hb.mono (by simp)))
  have HGL := Lib.hid (show w.heap.size < gl from by have := (hown.lt gl rfl).1; simp at this; omega)
  have HOV0 := Lib.hid (show w2.ownsRow w.heap.size 50 15 (.slice (some ⟨w.heap.size, 0, none⟩) 0 0) 0 (cellsC []) from own_fr' (World.ownsRow_lit (base := w.heap.size) (e := 50) (size := 15) w #[] 0 (Nat.le_refl _) (by decide) rfl) (hb.mono (Nat.le_refl _)))
  clear hown hb
  go_wp2_with fail
  go_loopw [5, 7] (fun ov i wr => ∃ (n : Nat) (out : List CV), n < ps.length ∧ i = .int .i64 n ∧ PL w s0 (remS ps n) n out ov wr ∧ ov.ownBlock ≠ some gl ∧ gl < wr.heap.size ∧ ∀ (j : Nat) t, ps[j]? = some t → wr.cell? ⟨gl, j, none⟩ = some (.string t)) (fun _ i _ => ps.length - (intOf i).toNat)
  case atStart =>
    refine ⟨0, [], hpos, rfl, ⟨by rw [HZ.out]; rfl, by rw [HZ.out]; exact Nat.le_refl _, rfl, HOV0.out, fun q hq => by simp at hq, fun q hq => by simp at hq, HB2.out⟩, ?_, HLC.out.1, fun j t ht => HLC.out.2 j _ (by unfold strs; rw [List.getElem?_map, ht]; rfl)⟩
    intro e
    simp only [Value.ownBlock, Option.some.injEq] at e
    have := HGL.out; omega
  case round =>
    obtain ⟨n, out, hn, rfl, hP, hne, hgl, hlc⟩ := hrel
    have HP := Lib.hid hP
    have hsz := hP.sz
    have hol := hP.len
    obtain ⟨OA, OC, rfl⟩ := shp hP.own
    obtain ⟨p, hp⟩ : ∃ p, ps[n]? = some p := ⟨_, List.getElem?_eq_getElem hn⟩
    have k1 : wr.cell? ⟨gl, n, none⟩ = some (.string p) := hlc n p hp
    have HNE := Lib.hid hne
    have HGW := Lib.hid hgl
    have HLW := Lib.hid hlc
    have hps : p.size ≤ 1000000 := Nat.le_trans (HSM.out p (List.mem_of_getElem? hp)) hs
    have hno := HNO.out p (List.mem_of_getElem? hp)
    have HFIT := Lib.hid (lineR_fit (s := p) (by omega))
    have HLINE := Lib.hid (fun W => rline_any W p (by omega))
    have HEQC := Lib.hid (line_eq_callM p)
    have HOKC := Lib.hid (lineR_ok (s := p))
    have hwn : IntKind.i64.wrap ((ps.length : Int) - 1) = (ps.length : Int) - 1 := IntWalk.i64_in _ (by omega)
    unfold RPost at HLINE
    obtain ⟨⟨c, f⟩, hcm⟩ : ∃ c, lineR (words p) = c := ⟨_, rfl⟩
    rw [hcm] at HLINE HFIT HEQC HOKC
    dsimp only at HLINE HFIT HEQC HOKC
    have hce : callM ⟨p.data.toList.toArray⟩ = callM p := by rw [ba_eta]
    clear hP hne hgl hlc
    by_cases hlast : n + 1 = ps.length
    · have HCL := Lib.hid (cut_last hp hlast hno)
      have HRL := Lib.hid (remS_last hp hlast)
      by_cases h0 : p.size = 0
      · have hpl : p.toList.isEmpty = true := by rw [DgW.empty_iff]; exact decide_eq_true h0
        have b1 : p.toList = [] := by simpa using hpl
        have b0 : ((n : Int) == (ps.length : Int) - 1) = true := by rw [beq_iff_eq]; omega
        have HC := Lib.hid HP.out.cls
        have HE := Lib.hid (show parseM s0 = fin (out.map (·.1)) from HP.out.eq.trans (parseL_nil _ _ _ _ (by rw [HRL.out]; exact h0)))
        have HR := Lib.hid (right_ref wr _ out HC.out (by omega) (fun q hq => (HP.out.fit q hq).1))
        rw [rightM_fst] at HR
        obtain ⟨rb, hrb⟩ : ∃ rb, rightC (out.map (·.1)) = rb := ⟨_, rfl⟩
        rw [hrb] at HR
        have HRB := Lib.hid hrb
        clear h0 hrb hcm hce hno hp hlast
        cases rb with
        | false =>
          go_wp2_with fail
          refine HR.out.mono ?_
          rintro e w1 ⟨rfl, hb1⟩
          have HB1 := Lib.hid hb1
          clear hb1
          go_wp2_with fail
          refine bodyPost_ret (v := .tuple #[.slice none 0 0, .int .i64 0, .int .i64 8]) (by simp [results, Tryd.results17, go_sem]) rfl ?_
          exact parse_none (HE.out.trans (by unfold fin; rw [HRB.out]; rfl)) (HP.out.below.trans (HB1.out.mono HP.out.below.size))
        | true =>
          go_wp2_with fail
          refine HR.out.mono ?_
          rintro e w1 ⟨rfl, hb1⟩
          have HB1 := Lib.hid hb1
          clear hb1
          go_wp2_with fail
          refine bodyPost_ret (v := .tuple #[.slice OA n OC, .int .i64 0, .int .i64 0]) (by simp [results, Tryd.results17, go_sem]) rfl ?_
          have hE := HE.out.trans (show fin (out.map (·.1)) = (out.map (·.1), 0, 0) by unfold fin; rw [HRB.out]; rfl)
          exact ⟨_, out, by rw [hE], HC.out.below HB1.out, by rw [hE], HP.out.below.trans (HB1.out.mono HP.out.below.size)⟩
      · have hpl : p.toList.isEmpty = false := by rw [DgW.empty_iff]; exact decide_eq_false h0
        have b1 : ¬ p.toList = [] := by intro e; rw [e] at hpl; cases hpl
        have b2 : (p.toList == []) = false := by rw [beq_eq_false_iff_ne]; exact b1
        have b0 : ((n : Int) == (ps.length : Int) - 1) = true := by rw [beq_iff_eq]; omega
        have HBAD := Lib.hid (HP.out.eq.trans (parseL_no (by rw [HRL.out]; exact h0) (by rw [HCL.out]; rfl)))
        clear h0 hcm hce hno hp hlast
        obtain ⟨ct, ci, ⟨ok, okey, oval, oold⟩, cb, ce, cd, ⟨re, rh, rd, rv, rn, rp⟩⟩ := c
        unfold encC callC at HLINE
        dsimp only at HLINE
        cases f
        all_goals
          go_wp2_with fail
          refine (HLINE.out _).mono ?_
          rintro e w4 ⟨pv, rfl, ho2, hb2⟩
          obtain ⟨PA, PC, rfl⟩ := shp ho2
          have HB4 := Lib.hid (HP.out.below.trans (hb2.mono HP.out.below.size))
          clear ho2 hb2
          go_wp2_with fail
          refine bodyPost_ret (v := .tuple #[.slice none 0 0, .int .i64 n, .int .i64 3]) (by simp [results, Tryd.results17, go_sem]) rfl ?_
          exact parse_none HBAD.out (HB4.out.alloc HB4.out.size _)
    · have hl2 : n + 1 < ps.length := by omega
      have HCM := Lib.hid (cut_more hp hl2 hno)
      have HRZ := Lib.hid (rem_size hp hl2)
      have b0 : ((n : Int) == (ps.length : Int) - 1) = false := by rw [beq_eq_false_iff_ne]; omega
      have HGO := Lib.hid (fun hc hf => parseL_go (s := remS ps n) (n := n) (out := out.map (·.1)) (by have := HRZ.out; omega) hc hf)
      have HNG := Lib.hid (fun hc => parseL_no (s := remS ps n) (n := n) (out := out.map (·.1)) (by have := HRZ.out; omega) hc)
      rw [HCM.out, hce] at HGO HNG
      dsimp only at HGO HNG
      rw [ba_eta] at HGO
      clear hcm hce hno hp hlast
      obtain ⟨ct, ci, ⟨ok, okey, oval, oold⟩, cb, ce, cd, ⟨re, rh, rd, rv, rn, rp⟩⟩ := c
      unfold encC callC at HLINE
      dsimp only at HLINE
      cases f with
      | false =>
        have HBAD := Lib.hid (HP.out.eq.trans (HNG.out (by rw [HEQC.out.1]; rfl)))
        go_wp2_with fail
        refine (HLINE.out _).mono ?_
        rintro e w4 ⟨pv, rfl, ho2, hb2⟩
        obtain ⟨PA, PC, rfl⟩ := shp ho2
        have HB4 := Lib.hid (HP.out.below.trans (hb2.mono HP.out.below.size))
        clear ho2 hb2
        go_wp2_with fail
        refine bodyPost_ret (v := .tuple #[.slice none 0 0, .int .i64 n, .int .i64 3]) (by simp [results, Tryd.results17, go_sem]) rfl ?_
        exact parse_none HBAD.out (HB4.out.alloc HB4.out.size _)
      | true =>
        have HEQ := Lib.hid (show parseM s0 = parseL (remS ps (n + 1)).size (remS ps (n + 1)) (n + 1) (out.map (·.1) ++ [⟨ct, ci, ⟨ok, okey, oval, oold⟩, cb, ce, cd, ⟨re, rh, rd, rv, rn, rp⟩⟩]) from by
          have hk := HOKC.out rfl
          have := HP.out.eq.trans (HGO.out rfl (by rw [hk]))
          rw [hk] at this
          exact this)
        have hsz3 : (remS ps (n + 1)).size + (n + 1) ≤ s0.size := by have := HRZ.out; omega
        go_wp2_with fail
        refine (HLINE.out _).mono ?_
        rintro e w4 ⟨pv, rfl, ho2, hb2⟩
        obtain ⟨PA, PC, rfl⟩ := shp ho2
        have HB4 := Lib.hid hb2
        have HO2 := Lib.hid ho2
        clear ho2 hb2
        obtain ⟨w3, hw3⟩ : ∃ w3, w3 = (w4.alloc (.cells #[.int .i64 ct, .int .i64 ci, .int .i64 ok, .string okey, .string oval, .string oold, .int .i64 cb, .int .i64 ce, .bool cd, .int .i64 re, .bool rh, .bool rd, .string rv, .int .i64 rn, .slice PA rp.length PC] 50)).alloc (.cells #[.int .i64 ct, .int .i64 ci, .int .i64 ok, .string okey, .string oval, .string oold, .int .i64 cb, .int .i64 ce, .bool cd, .int .i64 re, .bool rh, .bool rd, .string rv, .int .i64 rn, .slice PA rp.length PC] 50) := ⟨_, rfl⟩
        have HB3 := Lib.hid (show Below wr.heap.size wr w3 from by rw [hw3]; exact (HB4.out.alloc HB4.out.size _).alloc (by have := HB4.out.size; simp; omega) _)
        have HPV := Lib.hid (show w3.ownsRow wr.heap.size 95 2 (.slice PA rp.length PC) rp.length (cellsP rp) from by rw [hw3]; exact (HO2.out.alloc _).alloc _)
        have HOV := Lib.hid (own_fr' HP.out.own HB3.out)
        have HNW := Lib.hid (show w3.heap[w4.heap.size + 1]? = some (.cells #[.int .i64 ct, .int .i64 ci, .int .i64 ok, .string okey, .string oval, .string oold, .int .i64 cb, .int .i64 ce, .bool cd, .int .i64 re, .bool rh, .bool rd, .string rv, .int .i64 rn, .slice PA rp.length PC] 50 (0, 0)) from by
          rw [hw3, show w4.heap.size + 1 = (w4.alloc (.cells #[.int .i64 ct, .int .i64 ci, .int .i64 ok, .string okey, .string oval, .string oold, .int .i64 cb, .int .i64 ce, .bool cd, .int .i64 re, .bool rh, .bool rd, .string rv, .int .i64 rn, .slice PA rp.length PC] 50)).heap.size by simp]
          exact heap_alloc_new _ _)
        have hwz : w3.heap.size = w4.heap.size + 2 := by rw [hw3]; simp
        have HW3 := Lib.hid hw3
        have hwb : w.heap.size ≤ w3.heap.size := by have := HP.out.below.size; have := HB3.out.size; omega
        have hnn : n ≤ 2000000 := by omega
        clear hw3
        go_wp2_with (at_builtin; rw [← HW3.out]; refine wpList_append_lies _ rfl _ _ 34 rfl w.heap.size 50 i0 (.agg zeroC) 15 160 Tryd.underlying34 hi hz0 hz1 hz2 rfl (by decide) (.slice OA n OC) n (cellsC out) rfl HOV.out ⟨w4.heap.size + 1, 0, none⟩ 1 1 [.int .i64 ct, .int .i64 ci, .int .i64 ok, .string okey, .string oval, .string oold, .int .i64 cb, .int .i64 ce, .bool cd, .int .i64 re, .bool rh, .bool rd, .string rv, .int .i64 rn, .slice PA rp.length PC] rfl rfl (World.news_of_block (cs := #[.int .i64 ct, .int .i64 ci, .int .i64 ok, .string okey, .string oval, .string oold, .int .i64 cb, .int .i64 ce, .bool cd, .int .i64 re, .bool rh, .bool rd, .string rv, .int .i64 rn, .slice PA rp.length PC]) (t := 50) (fr := (0, 0)) HNW.out) (by simp [Value.oneCell']) (by omega) (by unfold maxLen; omega) (by omega) hwb w3.heap.size rfl ?_; intro g cap w5 hown5 hgrow5 hat5 hlt5; have HS := Lib.hid (HP.out.step HB3.out HPV.out hown5 hgrow5 hat5 HEQ.out hsz3 HFIT.out); have HGR := Lib.hid hgrow5; have HAT := Lib.hid hat5; clear hown5 hgrow5 hat5 hlt5)
        go_roundw
        case rel =>
          have hgb : gl < w3.heap.size := by have := HGW.out; have := HB3.out.size; omega
          have hbk := HGR.out.block gl hgb (fun e => HNE.out e.symm)
          have hbk2 := HB3.out.block gl HGW.out
          refine ⟨n + 1, _, hl2, by go_num, HS.out, ?_, ?_, fun j t ht => (World.cell?_of_block (a := ⟨gl, j, none⟩) (hbk.trans hbk2)).trans (HLW.out j t ht)⟩
          · intro e
            simp only [Value.ownBlock, Option.some.injEq] at e
            rcases HAT.out with h4 | h4
            · exact HNE.out (by rw [h4, e])
            · omega
          · have := (HS.out).below.size
            have h5 := HGR.out
            obtain ⟨ob, hob⟩ : ∃ o, w5.heap[gl]? = some o := by
              rw [hbk.trans hbk2]
              exact ⟨_, Array.getElem?_eq_getElem HGW.out⟩
            exact (Array.getElem?_eq_some_iff.1 hob).1
        case measure => first | omega | (simp [intOf]; done) | (simp [intOf]; omega)
end Go.Proofs.YtdibkhddhgaghaaDoor.Hs
