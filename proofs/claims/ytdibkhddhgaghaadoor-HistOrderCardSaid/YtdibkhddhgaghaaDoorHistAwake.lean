/- The laws' awake: the chapter's example. -/
import Derived.Test.YtdibkhddhgaghaaDoorHistBack
import Derived.Test.YtdibkhddhgaghaaDoorHistParse
import Derived.Test.YtdibkhddhgaghaaDoorHistPrint
import Derived.Test.YtdibkhddhgaghaaDoorHistSame
namespace Go.Proofs.YtdibkhddhgaghaaDoor.Hs
open Go.RowKit Bq
set_option linter.unusedVariables false
set_option linter.unusedSimpArgs false
/-- What the world must have. -/
structure Wv (w : World) : Prop where
  vars : Vars w
  ml : ∃ m, w.cell? ⟨2, 0, none⟩ = some (.int .i64 m)
  lt : 2 < w.heap.size
theorem Wv.below {w w' : World} (h : Wv w) (hb : Below w.heap.size w w') : Wv w' := ⟨h.vars.below hb, by obtain ⟨m, hm⟩ := h.ml; exact ⟨m, (hb.cell (p := ⟨2, 0, none⟩) h.lt).trans hm⟩, Nat.lt_of_lt_of_le h.lt hb.size⟩
theorem parse_w {w : World} (h : Wv w) (s : ByteArray) (hs : s.size ≤ 2000000) : Calls Tryd.prog 16 #[.string s] w (ParsePost s w) := by
  obtain ⟨m, hm⟩ := h.ml
  exact parse_any w m s hs hm h.lt
def c0 : CallL := ⟨0, 0, ⟨1, ⟨#[107]⟩, ⟨#[]⟩, ⟨#[]⟩⟩, 3, 0, false, {}⟩
def q0 : CV := (c0, .slice none 0 0)
def text1 : ByteArray := ⟨#[48, 32, 48, 32, 49, 32, 54, 98, 32, 45, 32, 45, 32, 51, 32, 48, 32, 48, 32, 48, 32, 48, 32, 48, 32, 45, 32, 48, 32, 48, 10]⟩
def text2 : ByteArray := ⟨#[48, 32, 48, 32, 49, 32, 54, 98, 10]⟩
theorem itoa_small {n : Nat} (h : n < 10) : Lib.itoa (n : Int) = [UInt8.ofNat (48 + n)] := by
  unfold Lib.itoa
  rw [if_neg (by omega), Int.toNat_natCast]
  exact Dg.dec_small h
theorem ita0 : ita 0 = ⟨#[48]⟩ := by unfold ita; rw [show Lib.itoa 0 = _ from itoa_small (n := 0) (by decide)]; rfl
theorem ita1 : ita 1 = ⟨#[49]⟩ := by unfold ita; rw [show Lib.itoa 1 = _ from itoa_small (n := 1) (by decide)]; rfl
theorem ita3 : ita 3 = ⟨#[51]⟩ := by unfold ita; rw [show Lib.itoa 3 = _ from itoa_small (n := 3) (by decide)]; rfl
theorem print0 : printM [c0] = text1.data.toList := by
  unfold printM
  rw [List.flatMap_cons, List.flatMap_nil, List.append_nil, line_eq, jn_words]
  have : word15 c0 ++ wordsP c0.reply.pairs = [⟨#[48]⟩, ⟨#[48]⟩, ⟨#[49]⟩, ⟨#[54, 98]⟩, ⟨#[45]⟩, ⟨#[45]⟩, ⟨#[51]⟩, ⟨#[48]⟩, ⟨#[48]⟩, ⟨#[48]⟩, ⟨#[48]⟩, ⟨#[48]⟩, ⟨#[45]⟩, ⟨#[48]⟩, ⟨#[48]⟩] := by
    unfold word15 c0
    dsimp only
    show [ita 0, ita 0, ita 1, hxp ⟨#[107]⟩, hxp ⟨#[]⟩, hxp ⟨#[]⟩, ita 3, ita 0, bitB false, ita 0, bitB false, bitB false, hxp ⟨#[]⟩, ita 0, ita 0] ++ wordsP [] = _
    rw [ita0, ita1, ita3]
    rfl
  rw [this]
  rfl
theorem right0 : rightM [q0] = true := by kernel_rfl
theorem rest0 : rest [c0] = text1 := by unfold rest; rw [print0]
theorem parse0 : parseM text1 = ([c0], 0, 0) := by
  have := right_back right0
  rw [show [q0].map (·.1) = [c0] from rfl, rest0] at this
  exact this
theorem words2 : words ⟨#[48, 32, 48, 32, 49, 32, 54, 98]⟩ = [⟨#[48]⟩, ⟨#[48]⟩, ⟨#[49]⟩, ⟨#[54, 98]⟩] := words_inj (by rw [words_data]; rfl)
theorem call2 : (callM ⟨#[48, 32, 48, 32, 49, 32, 54, 98]⟩).2 = false := by
  unfold callM
  dsimp only
  rw [words2]
  have : (rdLine ([⟨#[48]⟩, ⟨#[48]⟩, ⟨#[49]⟩, ⟨#[54, 98]⟩], true)).2.2 = false := by kernel_rfl
  rw [if_neg (by rw [this]; simp)]
theorem cut2 : cutL text2 = ([48, 32, 48, 32, 49, 32, 54, 98], [], true) := Tx.cut_hit (x := [48, 32, 48, 32, 49, 32, 54, 98]) (y := []) (by decide)
theorem parse2 : parseM text2 = ([], 0, 3) := parseL_no (by decide) (by rw [cut2]; show (true && (callM ⟨#[48, 32, 48, 32, 49, 32, 54, 98]⟩).2) = false; rw [call2]; rfl)
theorem bef0 : bef c0 c0 = false := rfl
theorem cls0 (w : World) : Cls (w.alloc (.cells (callC c0 (.slice none 0 0)) 50)) (.slice (some ⟨w.heap.size, 0, none⟩) 1 1) [q0] := by
  refine ⟨some ⟨w.heap.size, 0, none⟩, 1, rfl, Nat.le_refl _, fun j q hj => ?_⟩
  cases j with
  | succ j => simp at hj
  | zero =>
    simp at hj
    subst hj
    exact ⟨⟨none, 0, rfl, Nat.le_refl _, fun j p hj => by simp [q0, c0] at hj⟩, w.heap.size, 0, rfl, by simp, fun k u hk => by
      show World.cell? _ ⟨w.heap.size, 0 + 0 * 15 + k, none⟩ = some u
      rw [show 0 + 0 * 15 + k = k by omega, cell_of' (heap_alloc_new w _)]
      exact hk⟩
theorem cls_shape {w : World} {v : Value} {l : List CV} (h : Cls w v l) : ∃ A c, v = .slice A l.length c := by
  obtain ⟨A, c, rfl, _⟩ := h; exact ⟨A, c, rfl⟩
set_option maxRecDepth 100000 in
set_option maxHeartbeats 8000000 in
theorem awake_any (w : World) (hv : Wv w) : Calls Tryd.prog 15 #[] w fun e w' => e = .returned (.bool true) ∧ Below w.heap.size w w' := by
  obtain ⟨W1, hW1⟩ : ∃ W1, W1 = w.alloc (.cells (callC c0 (.slice none 0 0)) 50) := ⟨_, rfl⟩
  have hb1 : Below w.heap.size w W1 := by rw [hW1]; exact (Below.refl _ _).alloc (Nat.le_refl _) _
  have hcls : Cls W1 (.slice (some ⟨w.heap.size, 0, none⟩) 1 1) [q0] := by rw [hW1]; exact cls0 w
  have hblk : W1.heap[w.heap.size]? = some (.cells (callC c0 (.slice none 0 0)) 50 (0, 0)) := by rw [hW1]; exact heap_alloc_new w _
  have hlt : w.heap.size < W1.heap.size := by rw [hW1]; simp
  have P1 := Lib.hid (parse_w (hv.below hb1) text1 (by decide))
  unfold ParsePost at P1
  rw [parse0] at P1
  have P2 := Lib.hid (fun W (h : Below w.heap.size w W) => parse_w (hv.below h) text2 (by decide))
  unfold ParsePost at P2
  rw [parse2] at P2
  dsimp only at P1 P2
  have HV := Lib.hid hv
  have HB1 := Lib.hid hb1
  have HCL := Lib.hid hcls
  have HBK := Lib.hid hblk
  have HLT := Lib.hid hlt
  unfold callC c0 at hW1
  dsimp only at hW1
  have HW1 := Lib.hid hW1
  unfold text1 at P1
  unfold text2 at P2
  clear hv hb1 hcls hblk hlt hW1
  go_enter Tryd.func15, Tryd.ntmps15
  go_wp2_with fail
  rw [← HW1.out]
  refine P1.out.mono ?_
  rintro e W2 ⟨ov, out, rfl, ho, hfst, hb2⟩
  obtain ⟨A2, C2, rfl⟩ := cls_shape ho
  have HO := Lib.hid ho
  have HF := Lib.hid hfst
  have HB2 := Lib.hid (HB1.out.trans (hb2.mono HB1.out.size))
  have hb12 := Lib.hid hb2
  clear ho hfst hb2
  go_wp2_with fail
  refine (P2.out W2 HB2.out).mono ?_
  rintro e W3 ⟨ov3, out3, rfl, ho3, hfst3, hb3⟩
  obtain ⟨A3, C3, rfl⟩ := cls_shape ho3
  have HB3 := Lib.hid (HB2.out.trans (hb3.mono HB2.out.size))
  have HB13 := Lib.hid (hb12.out.trans (hb3.mono hb12.out.size))
  have HO3 := Lib.hid (HO.out.below hb3)
  clear ho3 hfst3 hb3
  go_wp2_with fail
  have HC3 := Lib.hid (HCL.out.below HB13.out)
  have CP := Lib.hid (fun p : BelowBy W3 => calls_bel (p := p) (show Calls Tryd.prog 18 #[.slice (some ⟨w.heap.size, 0, none⟩) 1 1] p.w fun e w' => e = .returned (.string ⟨#[48, 32, 48, 32, 49, 32, 54, 98, 32, 45, 32, 45, 32, 51, 32, 48, 32, 48, 32, 48, 32, 48, 32, 48, 32, 45, 32, 48, 32, 48, 10]⟩) ∧ Below p.w.heap.size p.w w' from by
    have h := print_any p.w [q0] _ (by decide) (HC3.out.below p.hb) (fun q hq => alone_pok (right_alone right0 q hq)) (HV.out.below (HB3.out.trans (p.hb.mono HB3.out.size))).vars
    rw [show [q0].map (·.1) = [c0] from rfl, print0] at h
    exact h))
  have CS := Lib.hid (fun p : BelowBy W3 => calls_bel (p := p) (same38 p.w _ _ [q0] out (HC3.out.below p.hb) (HO3.out.below p.hb) (by rw [HF.out]; rfl) (by decide) (fun q hq => by simp at hq; subst hq; decide)))
  have CR := Lib.hid (fun p : BelowBy W3 => calls_bel (p := p) (show Calls Tryd.prog 21 #[.slice (some ⟨w.heap.size, 0, none⟩) 1 1] p.w fun e w' => e = .returned (.bool true) ∧ Below p.w.heap.size p.w w' from by
    have h := right_any p.w [q0] _ (by decide) (HC3.out.below p.hb) (fun q hq => by simp at hq; subst hq; decide)
    rw [right0] at h
    exact h))
  have CB := Lib.hid (fun p : BelowBy W3 => calls_bel (p := p) (show Calls Tryd.prog 22 #[encC c0 (.slice none 0 0), encC c0 (.slice none 0 0)] p.w fun e w' => e = .returned (.bool false) ∧ Below p.w.heap.size p.w w' from before_any p.w c0 c0 _ _))
  unfold encC callC c0 at CB
  dsimp only at CB
  have f0 : ∀ p : BelowBy W3, World.cell? p.w ⟨w.heap.size, 0, none⟩ = some (.int .i64 0) := fun p => ((HB13.out.trans (p.hb.mono HB13.out.size)).cell (p := ⟨w.heap.size, 0, none⟩) HLT.out).trans (cell_of' HBK.out 0)
  have f1 : ∀ p : BelowBy W3, World.cell? p.w ⟨w.heap.size, 1, none⟩ = some (.int .i64 0) := fun p => ((HB13.out.trans (p.hb.mono HB13.out.size)).cell (p := ⟨w.heap.size, 1, none⟩) HLT.out).trans (cell_of' HBK.out 1)
  have f2 : ∀ p : BelowBy W3, World.cell? p.w ⟨w.heap.size, 2, none⟩ = some (.int .i64 1) := fun p => ((HB13.out.trans (p.hb.mono HB13.out.size)).cell (p := ⟨w.heap.size, 2, none⟩) HLT.out).trans (cell_of' HBK.out 2)
  have f3 : ∀ p : BelowBy W3, World.cell? p.w ⟨w.heap.size, 3, none⟩ = some (.string ⟨#[107]⟩) := fun p => ((HB13.out.trans (p.hb.mono HB13.out.size)).cell (p := ⟨w.heap.size, 3, none⟩) HLT.out).trans (cell_of' HBK.out 3)
  have f4 : ∀ p : BelowBy W3, World.cell? p.w ⟨w.heap.size, 4, none⟩ = some (.string ⟨#[]⟩) := fun p => ((HB13.out.trans (p.hb.mono HB13.out.size)).cell (p := ⟨w.heap.size, 4, none⟩) HLT.out).trans (cell_of' HBK.out 4)
  have f5 : ∀ p : BelowBy W3, World.cell? p.w ⟨w.heap.size, 5, none⟩ = some (.string ⟨#[]⟩) := fun p => ((HB13.out.trans (p.hb.mono HB13.out.size)).cell (p := ⟨w.heap.size, 5, none⟩) HLT.out).trans (cell_of' HBK.out 5)
  have f6 : ∀ p : BelowBy W3, World.cell? p.w ⟨w.heap.size, 6, none⟩ = some (.int .i64 3) := fun p => ((HB13.out.trans (p.hb.mono HB13.out.size)).cell (p := ⟨w.heap.size, 6, none⟩) HLT.out).trans (cell_of' HBK.out 6)
  have f7 : ∀ p : BelowBy W3, World.cell? p.w ⟨w.heap.size, 7, none⟩ = some (.int .i64 0) := fun p => ((HB13.out.trans (p.hb.mono HB13.out.size)).cell (p := ⟨w.heap.size, 7, none⟩) HLT.out).trans (cell_of' HBK.out 7)
  have f8 : ∀ p : BelowBy W3, World.cell? p.w ⟨w.heap.size, 8, none⟩ = some (.bool false) := fun p => ((HB13.out.trans (p.hb.mono HB13.out.size)).cell (p := ⟨w.heap.size, 8, none⟩) HLT.out).trans (cell_of' HBK.out 8)
  have f9 : ∀ p : BelowBy W3, World.cell? p.w ⟨w.heap.size, 9, none⟩ = some (.int .i64 0) := fun p => ((HB13.out.trans (p.hb.mono HB13.out.size)).cell (p := ⟨w.heap.size, 9, none⟩) HLT.out).trans (cell_of' HBK.out 9)
  have f10 : ∀ p : BelowBy W3, World.cell? p.w ⟨w.heap.size, 10, none⟩ = some (.bool false) := fun p => ((HB13.out.trans (p.hb.mono HB13.out.size)).cell (p := ⟨w.heap.size, 10, none⟩) HLT.out).trans (cell_of' HBK.out 10)
  have f11 : ∀ p : BelowBy W3, World.cell? p.w ⟨w.heap.size, 11, none⟩ = some (.bool false) := fun p => ((HB13.out.trans (p.hb.mono HB13.out.size)).cell (p := ⟨w.heap.size, 11, none⟩) HLT.out).trans (cell_of' HBK.out 11)
  have f12 : ∀ p : BelowBy W3, World.cell? p.w ⟨w.heap.size, 12, none⟩ = some (.string ⟨#[]⟩) := fun p => ((HB13.out.trans (p.hb.mono HB13.out.size)).cell (p := ⟨w.heap.size, 12, none⟩) HLT.out).trans (cell_of' HBK.out 12)
  have f13 : ∀ p : BelowBy W3, World.cell? p.w ⟨w.heap.size, 13, none⟩ = some (.int .i64 0) := fun p => ((HB13.out.trans (p.hb.mono HB13.out.size)).cell (p := ⟨w.heap.size, 13, none⟩) HLT.out).trans (cell_of' HBK.out 13)
  have f14 : ∀ p : BelowBy W3, World.cell? p.w ⟨w.heap.size, 14, none⟩ = some (.slice none 0 0) := fun p => ((HB13.out.trans (p.hb.mono HB13.out.size)).cell (p := ⟨w.heap.size, 14, none⟩) HLT.out).trans (cell_of' HBK.out 14)
  refine wp_region_bel (by kernel_rfl) (by kernel_rfl) ?_
  repeat (first | go_big_quiet_step ((first | (go_at_call 18; exact CP.out _) | (go_at_call 20; exact CS.out _) | (go_at_call 21; exact CR.out _) | (go_at_call 22; exact CB.out _))) | quiet_step ((first | (go_at_call 18; exact CP.out _) | (go_at_call 20; exact CS.out _) | (go_at_call 21; exact CR.out _) | (go_at_call 22; exact CB.out _))))
  refine wpQuiet_nil ?_
  intro w5 hw5
  obtain ⟨⟨w5', hb5⟩, hw5'⟩ := hw5
  dsimp only at hw5'
  subst hw5'
  have HB5 := Lib.hid (HB3.out.trans (hb5.mono HB3.out.size))
  clear hb5 f0 f1 f2 f3 f4 f5 f6 f7 f8 f9 f10 f11 f12 f13 f14
  go_wp2_with fail
  go_ret
  exact ⟨rfl, HB5.out⟩
end Go.Proofs.YtdibkhddhgaghaaDoor.Hs
