/- hist.Parse: the walk. -/
import Derived.Test.YtdibkhddhgaghaaDoorHistParseP
namespace Go.Proofs.YtdibkhddhgaghaaDoor.Hs
open Go.RowKit
set_option linter.unusedVariables false
set_option linter.unusedSimpArgs false
theorem infoC : (Tryd.prog.info? 50).map (fun i => (i.zero, i.size, i.bytes)) = some (some (.agg zeroC), 15, 160) := by kernel_rfl
theorem below_drewN' (w : World) (n : Nat) : Below w.heap.size w (w.drewN n) := ⟨rfl, rfl, rfl, Nat.le_refl _, fun _ _ => rfl⟩
theorem shp {w : World} {base : Nat} {e : TypeId} {size n : Nat} {v : Value} {xs : List Value} (h : w.ownsRow base e size v n xs) : ∃ A C, v = .slice A n C := by
  obtain ⟨_, ⟨e, e0⟩ | ⟨g, cap', cur, e, _⟩⟩ := h
  · exact ⟨none, 0, by rw [e, e0]⟩
  · exact ⟨_, _, e⟩
set_option maxRecDepth 100000 in
set_option maxHeartbeats 8000000 in
theorem parse_any (w : World) (m : Int) (s0 : ByteArray) (hs : s0.size ≤ 2000000) (hm : w.cell? ⟨2, 0, none⟩ = some (.int .i64 m)) (hm2 : 2 < w.heap.size) :
    Calls Tryd.prog 16 #[.string s0] w (ParsePost s0 w) := by
  have HM := Lib.hid (fun W (h : Below w.heap.size w W) => (show W.cell? ⟨2, 0, none⟩ = some (.int .i64 m) ∧ 2 < W.heap.size from ⟨(h.cell (p := ⟨2, 0, none⟩) hm2).trans hm, Nat.lt_of_lt_of_le hm2 h.size⟩))
  have HP0 := Lib.hid (PL.start w s0)
  obtain ⟨i0, hi, hz0, hz1, hz2⟩ := info_parts infoC
  clear hm hm2
  go_enter Tryd.func16, Tryd.ntmps16
  go_wp2_with fail
  go_loopw [0, 5, 6] (fun sv ov nv wr => ∃ (s : ByteArray) (n : Nat) (out : List CV), sv = .string s ∧ nv = .int .i64 n ∧ PL w s0 s n out ov wr) (fun _ _ nv _ => s0.size - (intOf nv).toNat)
  case atStart => exact ⟨s0, 0, [], rfl, rfl, HP0.out⟩
  case round =>
    obtain ⟨s, n, out, rfl, rfl, hP⟩ := hrel
    have HP := Lib.hid hP
    have hsz := hP.sz
    obtain ⟨OA, OC, rfl⟩ := shp hP.own
    clear hP
    by_cases h0 : s.size = 0
    · have b0 : s.toList.isEmpty = true := by rw [DgW.empty_iff]; exact decide_eq_true h0
      have b1 : s.toList = [] := by simpa using b0
      have HCL := Lib.hid HP.out.cls
      have HE := Lib.hid (show parseM s0 = fin (out.map (·.1)) from HP.out.eq.trans (parseL_nil _ _ _ _ h0))
      have HR := Lib.hid (right_any _ out _ (by have := HP.out.len; omega) HCL.out (fun q hq => HP.out.fit q hq))
      rw [rightM_fst] at HR
      obtain ⟨rb, hrb⟩ : ∃ rb, rightC (out.map (·.1)) = rb := ⟨_, rfl⟩
      rw [hrb] at HR
      have HRB := Lib.hid hrb
      clear h0 hrb
      cases rb with
      | false =>
        go_wp2_with fail
        refine HR.out.mono ?_
        rintro e w1 ⟨rfl, hb1⟩
        have HB1 := Lib.hid hb1
        clear hb1
        go_wp2_with fail
        refine bodyPost_ret (v := .tuple #[.slice none 0 0, .int .i64 0, .int .i64 8]) (by simp [results, Tryd.results16, go_sem]) rfl ?_
        exact parse_none (HE.out.trans (by unfold fin; rw [HRB.out]; rfl)) (HP.out.below.trans (HB1.out.mono HP.out.below.size))
      | true =>
        go_wp2_with fail
        refine HR.out.mono ?_
        rintro e w1 ⟨rfl, hb1⟩
        have HB1 := Lib.hid hb1
        clear hb1
        go_wp2_with fail
        refine bodyPost_ret (v := .tuple #[.slice OA n OC, .int .i64 0, .int .i64 0]) (by simp [results, Tryd.results16, go_sem]) rfl ?_
        have hE := HE.out.trans (show fin (out.map (·.1)) = (out.map (·.1), 0, 0) by unfold fin; rw [HRB.out]; rfl)
        exact ⟨_, out, by rw [hE], HCL.out.below HB1.out, by rw [hE], HP.out.below.trans (HB1.out.mono HP.out.below.size)⟩
    · have b0 : s.toList.isEmpty = false := by rw [DgW.empty_iff]; exact decide_eq_false h0
      have b1 : ¬ s.toList = [] := by intro e; rw [e] at b0; cases b0
      have HCUT := Lib.hid (show ∀ W, Below w.heap.size w W → Calls Tryd.prog 52 #[.string s, .string ⟨#[10]⟩] W fun e W' => e = .returned (.tuple #[.string ⟨(cutL s).1.toArray⟩, .string ⟨(cutL s).2.1.toArray⟩, .bool (cutL s).2.2]) ∧ ∃ n, W' = W.drewN n from fun W hW => Tryd.strings_Cut s ⟨#[10]⟩ m W (by omega) (HM.out W hW).1)
      have hc1 := cut_len s
      have HGO := Lib.hid (fun hc hf => parseL_go (n := n) (out := out.map (·.1)) h0 hc hf)
      have HNO := Lib.hid (fun hc => parseL_no (n := n) (out := out.map (·.1)) h0 hc)
      obtain ⟨⟨l1, l2, is⟩, hcut⟩ : ∃ c, cutL s = c := ⟨_, rfl⟩
      rw [hcut] at HCUT HGO HNO hc1
      dsimp only at HCUT HGO HNO hc1
      have hl1 : (⟨l1.toArray⟩ : ByteArray).size ≤ 2000000 := by show l1.toArray.size ≤ _; simp; omega
      have HFIT := Lib.hid (call_fit ⟨l1.toArray⟩ hl1)
      have HCALL := Lib.hid (fun W (h : Below w.heap.size w W) => call_any W m ⟨l1.toArray⟩ (by omega) (HM.out W h).1 (HM.out W h).2)
      unfold CallPost at HCALL
      obtain ⟨⟨c, f⟩, hcm⟩ : ∃ c, callM ⟨l1.toArray⟩ = c := ⟨_, rfl⟩
      rw [hcm] at HCALL HGO HNO HFIT
      dsimp only at HCALL HGO HNO HFIT
      have HC1 := Lib.hid hc1
      clear hcut hcm h0 hc1 hl1
      obtain ⟨ct, ci, ⟨ok, okey, oval, oold⟩, cb, ce, cd, ⟨re, rh, rd, rv, rn, rp⟩⟩ := c
      unfold encC callC at HCALL
      dsimp only at HCALL
      obtain ⟨sl2, hsl2⟩ : ∃ x : ByteArray, x = ⟨l2.toArray⟩ := ⟨_, rfl⟩
      have hsz2 : sl2.size = l2.length := by rw [hsl2]; show l2.toArray.size = _; simp
      rw [← hsl2] at HCUT HGO
      have HSL := Lib.hid hsz2
      clear hsl2 hsz2
      by_cases hgo : (is && f) = true
      case neg =>
        have HB := Lib.hid (HNO.out (by simpa using hgo))
        have hwrap : is = false ∨ is = true ∧ f = false := by cases is <;> cases f <;> simp_all
        rcases hwrap with rfl | ⟨rfl, rfl⟩
        all_goals
          clear hgo
          go_wp2_with fail
          refine (HCUT.out _ HP.out.below).mono ?_
          rintro e w1 ⟨rfl, hd⟩
          have HB1 := Lib.hid (show Below w.heap.size w w1 from by obtain ⟨n1, rfl⟩ := hd; exact HP.out.below.trans ((below_drewN' _ _).mono HP.out.below.size))
          clear hd
          go_wp2_with fail
          refine (HCALL.out _ HB1.out).mono ?_
          rintro e w2 ⟨pv, rfl, ho2, hb2⟩
          obtain ⟨PA, PC, rfl⟩ := shp ho2
          have HB2 := Lib.hid (HB1.out.trans (hb2.mono HB1.out.size))
          clear ho2 hb2
          go_wp2_with fail
          refine bodyPost_ret (v := .tuple #[.slice none 0 0, .int .i64 n, .int .i64 3]) (by simp [results, Tryd.results16, go_sem]) rfl ?_
          exact parse_none (HP.out.eq.trans HB.out) (HB2.out.alloc HB2.out.size _)
      obtain ⟨rfl, rfl⟩ : is = true ∧ f = true := by simpa using hgo
      clear hgo
      have HEQ := Lib.hid (HP.out.eq.trans (HGO.out rfl rfl))
      have hs2 := HC1.out.2 rfl
      have hsz3 : sl2.size + (n + 1) ≤ s0.size := by have := HSL.out; omega
      clear hs2
      go_wp2_with fail
      refine (HCUT.out _ HP.out.below).mono ?_
      rintro e w1 ⟨rfl, hd⟩
      have HB1 := Lib.hid (show Below wr.heap.size wr w1 from by obtain ⟨n1, rfl⟩ := hd; exact below_drewN' _ _)
      have HB1' := Lib.hid (HP.out.below.trans (HB1.out.mono HP.out.below.size))
      clear hd
      go_wp2_with fail
      refine (HCALL.out _ HB1'.out).mono ?_
      rintro e w2 ⟨pv, rfl, ho2, hb2⟩
      obtain ⟨PA, PC, rfl⟩ := shp ho2
      have HB2 := Lib.hid (HB1.out.trans (hb2.mono HB1.out.size))
      have HO2 := Lib.hid (World.ownsRow.mono ho2 HB1.out.size)
      clear ho2 hb2
      obtain ⟨w3, hw3⟩ : ∃ w3, w3 = (w2.alloc (.cells #[.int .i64 ct, .int .i64 ci, .int .i64 ok, .string okey, .string oval, .string oold, .int .i64 cb, .int .i64 ce, .bool cd, .int .i64 re, .bool rh, .bool rd, .string rv, .int .i64 rn, .slice PA rp.length PC] 50)).alloc (.cells #[.int .i64 ct, .int .i64 ci, .int .i64 ok, .string okey, .string oval, .string oold, .int .i64 cb, .int .i64 ce, .bool cd, .int .i64 re, .bool rh, .bool rd, .string rv, .int .i64 rn, .slice PA rp.length PC] 50) := ⟨_, rfl⟩
      have HB3 := Lib.hid (show Below wr.heap.size wr w3 from by rw [hw3]; exact (HB2.out.alloc HB2.out.size _).alloc (by have := HB2.out.size; simp; omega) _)
      have HPV := Lib.hid (show w3.ownsRow wr.heap.size 95 2 (.slice PA rp.length PC) rp.length (cellsP rp) from by rw [hw3]; exact (HO2.out.alloc _).alloc _)
      have HOV := Lib.hid (own_fr' HP.out.own HB3.out)
      have HNW := Lib.hid (show w3.heap[w2.heap.size + 1]? = some (.cells #[.int .i64 ct, .int .i64 ci, .int .i64 ok, .string okey, .string oval, .string oold, .int .i64 cb, .int .i64 ce, .bool cd, .int .i64 re, .bool rh, .bool rd, .string rv, .int .i64 rn, .slice PA rp.length PC] 50 (0, 0)) from by rw [hw3, show w2.heap.size + 1 = (w2.alloc (.cells #[.int .i64 ct, .int .i64 ci, .int .i64 ok, .string okey, .string oval, .string oold, .int .i64 cb, .int .i64 ce, .bool cd, .int .i64 re, .bool rh, .bool rd, .string rv, .int .i64 rn, .slice PA rp.length PC] 50)).heap.size by simp]; exact heap_alloc_new _ _)
      have hwz : w3.heap.size = w2.heap.size + 2 := by rw [hw3]; simp
      have HW3 := Lib.hid hw3
      have hwb : w.heap.size ≤ w3.heap.size := by have := HP.out.below.size; have := HB3.out.size; omega
      have hnn : n ≤ 2000000 := by omega
      clear hw3
      go_wp2_with (at_builtin; rw [← HW3.out]; refine wpList_append_lies _ rfl _ _ 34 rfl w.heap.size 50 i0 (.agg zeroC) 15 160 Tryd.underlying34 hi hz0 hz1 hz2 rfl (by decide) (.slice OA n OC) n (cellsC out) rfl HOV.out ⟨w2.heap.size + 1, 0, none⟩ 1 1 [.int .i64 ct, .int .i64 ci, .int .i64 ok, .string okey, .string oval, .string oold, .int .i64 cb, .int .i64 ce, .bool cd, .int .i64 re, .bool rh, .bool rd, .string rv, .int .i64 rn, .slice PA rp.length PC] rfl rfl (World.news_of_block (cs := #[.int .i64 ct, .int .i64 ci, .int .i64 ok, .string okey, .string oval, .string oold, .int .i64 cb, .int .i64 ce, .bool cd, .int .i64 re, .bool rh, .bool rd, .string rv, .int .i64 rn, .slice PA rp.length PC]) (t := 50) (fr := (0, 0)) HNW.out) (by simp [Value.oneCell']) (by omega) (by unfold maxLen; omega) (by omega) hwb w3.heap.size rfl ?_; intro g cap w5 hown5 hgrow5 hat5 hlt5; have HS := Lib.hid (HP.out.step HB3.out HPV.out hown5 hgrow5 hat5 HEQ.out hsz3 HFIT.out); clear hown5 hgrow5 hat5 hlt5)
      go_roundw
      case rel => exact ⟨sl2, n + 1, _, rfl, by go_num, HS.out⟩
      case measure => simp [intOf]; omega
end Go.Proofs.YtdibkhddhgaghaaDoor.Hs
