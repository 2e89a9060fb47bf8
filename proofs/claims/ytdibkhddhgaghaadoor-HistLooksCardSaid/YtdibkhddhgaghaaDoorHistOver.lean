/- Overlap, of the machine and the reference. -/
import Derived.Test.YtdibkhddhgaghaaDoorHistRight
import Derived.Test.YtdibkhddhgaghaaDoorHistSame
namespace Go.Proofs.YtdibkhddhgaghaaDoor.Hs
open Go.RowKit Bq
set_option linter.unusedVariables false
set_option linter.unusedSimpArgs false
def cnt (f : Nat → Bool) : Nat → Nat
  | 0 => 0
  | k + 1 => cnt f k + if f k then 1 else 0
def sm (g : Nat → Nat) : Nat → Nat
  | 0 => 0
  | k + 1 => sm g k + g k
theorem cnt_le (f : Nat → Bool) : ∀ k, cnt f k ≤ k
  | 0 => Nat.le_refl _
  | k + 1 => by have := cnt_le f k; unfold cnt; split <;> omega
theorem sm_le {g : Nat → Nat} {B : Nat} : ∀ k, (∀ i, i < k → g i ≤ B) → sm g k ≤ k * B
  | 0, _ => by simp [sm]
  | k + 1, h => by
    have h1 := sm_le k (fun i hi => h i (by omega))
    have h2 := h k (by omega)
    unfold sm
    rw [Nat.add_mul]
    omega
theorem sm_add (g h : Nat → Nat) : ∀ k, sm (fun i => g i + h i) k = sm g k + sm h k
  | 0 => rfl
  | k + 1 => by unfold sm; rw [sm_add g h k]; omega
theorem sm_congr {g h : Nat → Nat} : ∀ k, (∀ i, i < k → g i = h i) → sm g k = sm h k
  | 0, _ => rfl
  | k + 1, e => by unfold sm; rw [sm_congr k (fun i hi => e i (by omega)), e k (by omega)]
theorem cnt_sm (f : Nat → Bool) : ∀ k, cnt f k = sm (fun i => if f i then 1 else 0) k
  | 0 => rfl
  | k + 1 => by unfold cnt sm; rw [cnt_sm f k]
theorem cnt_congr {f g : Nat → Bool} : ∀ k, (∀ i, i < k → f i = g i) → cnt f k = cnt g k
  | 0, _ => rfl
  | k + 1, e => by unfold cnt; rw [cnt_congr k (fun i hi => e i (by omega)), e k (by omega)]
theorem cnt_none {f : Nat → Bool} : ∀ k, (∀ i, i < k → f i = false) → cnt f k = 0
  | 0, _ => rfl
  | k + 1, e => by unfold cnt; rw [cnt_none k (fun i hi => e i (by omega)), e k (by omega)]; rfl
/-- Each pair once: below, or above. -/
theorem pairs_once (s : Nat → Nat → Bool) (hs : ∀ i k, s i k = s k i) : ∀ n, sm (fun i => cnt (fun k => decide (i < k) && s i k) n) n = sm (fun i => cnt (s i) i) n
  | 0 => rfl
  | n + 1 => by
    have ih := pairs_once s hs n
    have h1 : sm (fun i => cnt (fun k => decide (i < k) && s i k) (n + 1)) n = sm (fun i => cnt (fun k => decide (i < k) && s i k) n + if s n i then 1 else 0) n := sm_congr n fun i hi => by
      show cnt _ n + (if (decide (i < n) && s i n) = true then 1 else 0) = _
      rw [decide_eq_true hi, hs i n]; rfl
    have h2 : cnt (fun k => decide (n < k) && s n k) (n + 1) = 0 := cnt_none _ fun i hi => by rw [decide_eq_false (by omega)]; rfl
    show sm _ n + cnt _ (n + 1) = sm _ n + cnt (s n) n
    rw [h1, h2, sm_add, ih, cnt_sm (s n) n]
    omega
def callAt (l : List CV) (i : Nat) : CallL := match l[i]? with | some q => q.1 | none => ⟨0, 0, ⟨0, ⟨#[]⟩, ⟨#[]⟩, ⟨#[]⟩⟩, 0, 0, false, {}⟩
theorem callAt_eq {l : List CV} {i : Nat} {q : CV} (h : l[i]? = some q) : callAt l i = q.1 := by unfold callAt; rw [h]
/-- Two calls overlap. -/
def ovl (l : List CV) (i k : Nat) : Bool := !bef (callAt l i) (callAt l k) && !bef (callAt l k) (callAt l i)
theorem ovl_comm (l : List CV) (i k : Nat) : ovl l i k = ovl l k i := by unfold ovl; rw [Bool.and_comm]
def overM (l : List CV) : Nat := sm (fun i => cnt (ovl l i) i) l.length
theorem over_ref (l : List CV) : sm (fun i => cnt (fun k => decide (i < k) && ovl l i k) l.length) l.length = overM l := pairs_once _ (ovl_comm l) _
set_option maxRecDepth 100000 in
set_option maxHeartbeats 16000000 in
theorem over_any (w : World) (v : Value) (l : List CV) (h : Cls w v l) (hn : l.length ≤ 1000) :
    Calls Tryd.prog 30 #[v] w fun e w' => e = .returned (.int .i64 (overM l : Nat)) ∧ Below w.heap.size w w' := by
  obtain ⟨A, cap, rfl, hcap, hc⟩ := h
  have HC := Lib.hid hc
  clear hc
  have HBD := Lib.hid (show ∀ i, i ≤ l.length → sm (fun i => cnt (ovl l i) i) i ≤ 1000000 from fun i hi => by
    have := sm_le (B := 1000) (g := fun i => cnt (ovl l i) i) i (fun j hj => Nat.le_trans (cnt_le _ _) (by omega))
    have h2 := Nat.mul_le_mul_right 1000 (Nat.le_trans hi hn)
    omega)
  go_enter Tryd.func30, Tryd.ntmps30
  go_wp2_with fail
  go_loopw [3, 8] (fun nv iv wr => ∃ i : Nat, i ≤ l.length ∧ iv = .int .i64 i ∧ nv = .int .i64 (sm (fun i => cnt (ovl l i) i) i : Nat) ∧ Below w.heap.size w wr) (fun _ iv _ => l.length - (intOf iv).toNat)
  case atStart => exact ⟨0, Nat.zero_le _, rfl, rfl, Below.refl _ _⟩
  case round =>
    obtain ⟨i, hi, rfl, rfl, hB⟩ := hrel
    have HB := Lib.hid hB
    clear hB
    by_cases hil : i < l.length
    · have hbd := HBD.out i hi
      obtain ⟨so, hso⟩ : ∃ x, x = sm (fun i => cnt (ovl l i) i) i := ⟨_, rfl⟩
      have HSO := Lib.hid (show sm (fun i => cnt (ovl l i) i) (i + 1) = so + cnt (ovl l i) i from by rw [hso]; rfl)
      rw [← hso] at hbd ⊢
      clear hso
      obtain ⟨b, z, hAz⟩ : ∃ b z, A = some ⟨b, z, none⟩ := by
        obtain ⟨_, b, z, e, _⟩ := HC.out i _ (List.getElem?_eq_getElem hil)
        exact ⟨b, z, e⟩
      subst hAz
      have HCELL := Lib.hid (show ∀ W, Below w.heap.size w W → ∀ j q, l[j]? = some q → ∀ t u, (callC q.1 q.2)[t]? = some u → W.cell? ⟨b, z + j * 15 + t, none⟩ = some u from fun W hW j q hq t u hu => by
        obtain ⟨_, b', z', e, hb', hc'⟩ := HC.out j q hq
        injection e with e
        injection e with e1 e2
        subst e1; subst e2
        exact (hW.cell (p := ⟨b, z + j * 15 + t, none⟩) hb').trans (hc' t u hu))
      go_wp2_with fail
      go_loopw [3, 12] (fun nv kv wr => ∃ k : Nat, k ≤ i ∧ kv = .int .i64 k ∧ nv = .int .i64 ((so + cnt (ovl l i) k : Nat) : Int) ∧ Below w.heap.size w wr) (fun _ kv _ => i - (intOf kv).toNat)
      case atStart => exact ⟨0, Nat.zero_le _, rfl, rfl, HB.out⟩
      case round =>
        obtain ⟨k, hk, rfl, rfl, hB⟩ := hrel
        have HB := Lib.hid hB
        clear hB
        by_cases hkl : k < i
        · have hcb := cnt_le (ovl l i) k
          obtain ⟨sc, hsc⟩ : ∃ x, x = so + cnt (ovl l i) k := ⟨_, rfl⟩
          have hscb : sc ≤ 1002000 := by omega
          have HSC := Lib.hid (show so + cnt (ovl l i) (k + 1) = sc + if ovl l i k then 1 else 0 from by rw [hsc]; show so + (cnt _ k + _) = _; omega)
          rw [← hsc]
          clear hsc hcb
          obtain ⟨⟨⟨xat, xai, ⟨xak, xay, xav, xao⟩, xab, xae, xad, ⟨xar, xah, xaf, xau, xan, xap⟩⟩, xaw⟩, hqxa⟩ : ∃ q, l[i]? = some q := ⟨_, List.getElem?_eq_getElem (by omega)⟩
          obtain ⟨xaA, xac, hwxa⟩ := prs_shape (HC.out i _ hqxa).1
          dsimp only at hwxa
          subst hwxa
          have HQxa := Lib.hid hqxa
          clear hqxa
          obtain ⟨⟨⟨xct, xci, ⟨xck, xcy, xcv, xco⟩, xcb, xce, xcd, ⟨xcr, xch, xcf, xcu, xcn, xcp⟩⟩, xcw⟩, hqxc⟩ : ∃ q, l[k]? = some q := ⟨_, List.getElem?_eq_getElem (by omega)⟩
          obtain ⟨xcA, xcc, hwxc⟩ := prs_shape (HC.out k _ hqxc).1
          dsimp only at hwxc
          subst hwxc
          have HQxc := Lib.hid hqxc
          clear hqxc
          have HOV := Lib.hid (show ovl l i k = (!bef ⟨xat, xai, ⟨xak, xay, xav, xao⟩, xab, xae, xad, ⟨xar, xah, xaf, xau, xan, xap⟩⟩ ⟨xct, xci, ⟨xck, xcy, xcv, xco⟩, xcb, xce, xcd, ⟨xcr, xch, xcf, xcu, xcn, xcp⟩⟩ && !bef ⟨xct, xci, ⟨xck, xcy, xcv, xco⟩, xcb, xce, xcd, ⟨xcr, xch, xcf, xcu, xcn, xcp⟩⟩ ⟨xat, xai, ⟨xak, xay, xav, xao⟩, xab, xae, xad, ⟨xar, xah, xaf, xau, xan, xap⟩⟩) from by unfold ovl; rw [callAt_eq HQxa.out, callAt_eq HQxc.out])
          have xaF0 : ∀ p : BelowBy wr, World.cell? p.w ⟨b, z + i * 15, none⟩ = some (.int .i64 xat) := fun p => HCELL.out p.w (HB.out.trans (p.hb.mono HB.out.size)) i _ HQxa.out 0 _ rfl
          have xaF1 : ∀ p : BelowBy wr, World.cell? p.w ⟨b, z + i * 15 + 1, none⟩ = some (.int .i64 xai) := fun p => HCELL.out p.w (HB.out.trans (p.hb.mono HB.out.size)) i _ HQxa.out 1 _ rfl
          have xaF2 : ∀ p : BelowBy wr, World.cell? p.w ⟨b, z + i * 15 + 2, none⟩ = some (.int .i64 xak) := fun p => HCELL.out p.w (HB.out.trans (p.hb.mono HB.out.size)) i _ HQxa.out 2 _ rfl
          have xaF3 : ∀ p : BelowBy wr, World.cell? p.w ⟨b, z + i * 15 + 3, none⟩ = some (.string xay) := fun p => HCELL.out p.w (HB.out.trans (p.hb.mono HB.out.size)) i _ HQxa.out 3 _ rfl
          have xaF4 : ∀ p : BelowBy wr, World.cell? p.w ⟨b, z + i * 15 + 4, none⟩ = some (.string xav) := fun p => HCELL.out p.w (HB.out.trans (p.hb.mono HB.out.size)) i _ HQxa.out 4 _ rfl
          have xaF5 : ∀ p : BelowBy wr, World.cell? p.w ⟨b, z + i * 15 + 5, none⟩ = some (.string xao) := fun p => HCELL.out p.w (HB.out.trans (p.hb.mono HB.out.size)) i _ HQxa.out 5 _ rfl
          have xaF6 : ∀ p : BelowBy wr, World.cell? p.w ⟨b, z + i * 15 + 6, none⟩ = some (.int .i64 xab) := fun p => HCELL.out p.w (HB.out.trans (p.hb.mono HB.out.size)) i _ HQxa.out 6 _ rfl
          have xaF7 : ∀ p : BelowBy wr, World.cell? p.w ⟨b, z + i * 15 + 7, none⟩ = some (.int .i64 xae) := fun p => HCELL.out p.w (HB.out.trans (p.hb.mono HB.out.size)) i _ HQxa.out 7 _ rfl
          have xaF8 : ∀ p : BelowBy wr, World.cell? p.w ⟨b, z + i * 15 + 8, none⟩ = some (.bool xad) := fun p => HCELL.out p.w (HB.out.trans (p.hb.mono HB.out.size)) i _ HQxa.out 8 _ rfl
          have xaF9 : ∀ p : BelowBy wr, World.cell? p.w ⟨b, z + i * 15 + 9, none⟩ = some (.int .i64 xar) := fun p => HCELL.out p.w (HB.out.trans (p.hb.mono HB.out.size)) i _ HQxa.out 9 _ rfl
          have xaF10 : ∀ p : BelowBy wr, World.cell? p.w ⟨b, z + i * 15 + 10, none⟩ = some (.bool xah) := fun p => HCELL.out p.w (HB.out.trans (p.hb.mono HB.out.size)) i _ HQxa.out 10 _ rfl
          have xaF11 : ∀ p : BelowBy wr, World.cell? p.w ⟨b, z + i * 15 + 11, none⟩ = some (.bool xaf) := fun p => HCELL.out p.w (HB.out.trans (p.hb.mono HB.out.size)) i _ HQxa.out 11 _ rfl
          have xaF12 : ∀ p : BelowBy wr, World.cell? p.w ⟨b, z + i * 15 + 12, none⟩ = some (.string xau) := fun p => HCELL.out p.w (HB.out.trans (p.hb.mono HB.out.size)) i _ HQxa.out 12 _ rfl
          have xaF13 : ∀ p : BelowBy wr, World.cell? p.w ⟨b, z + i * 15 + 13, none⟩ = some (.int .i64 xan) := fun p => HCELL.out p.w (HB.out.trans (p.hb.mono HB.out.size)) i _ HQxa.out 13 _ rfl
          have xaF14 : ∀ p : BelowBy wr, World.cell? p.w ⟨b, z + i * 15 + 14, none⟩ = some (.slice xaA xap.length xac) := fun p => HCELL.out p.w (HB.out.trans (p.hb.mono HB.out.size)) i _ HQxa.out 14 _ rfl
          have xcF0 : ∀ p : BelowBy wr, World.cell? p.w ⟨b, z + k * 15, none⟩ = some (.int .i64 xct) := fun p => HCELL.out p.w (HB.out.trans (p.hb.mono HB.out.size)) k _ HQxc.out 0 _ rfl
          have xcF1 : ∀ p : BelowBy wr, World.cell? p.w ⟨b, z + k * 15 + 1, none⟩ = some (.int .i64 xci) := fun p => HCELL.out p.w (HB.out.trans (p.hb.mono HB.out.size)) k _ HQxc.out 1 _ rfl
          have xcF2 : ∀ p : BelowBy wr, World.cell? p.w ⟨b, z + k * 15 + 2, none⟩ = some (.int .i64 xck) := fun p => HCELL.out p.w (HB.out.trans (p.hb.mono HB.out.size)) k _ HQxc.out 2 _ rfl
          have xcF3 : ∀ p : BelowBy wr, World.cell? p.w ⟨b, z + k * 15 + 3, none⟩ = some (.string xcy) := fun p => HCELL.out p.w (HB.out.trans (p.hb.mono HB.out.size)) k _ HQxc.out 3 _ rfl
          have xcF4 : ∀ p : BelowBy wr, World.cell? p.w ⟨b, z + k * 15 + 4, none⟩ = some (.string xcv) := fun p => HCELL.out p.w (HB.out.trans (p.hb.mono HB.out.size)) k _ HQxc.out 4 _ rfl
          have xcF5 : ∀ p : BelowBy wr, World.cell? p.w ⟨b, z + k * 15 + 5, none⟩ = some (.string xco) := fun p => HCELL.out p.w (HB.out.trans (p.hb.mono HB.out.size)) k _ HQxc.out 5 _ rfl
          have xcF6 : ∀ p : BelowBy wr, World.cell? p.w ⟨b, z + k * 15 + 6, none⟩ = some (.int .i64 xcb) := fun p => HCELL.out p.w (HB.out.trans (p.hb.mono HB.out.size)) k _ HQxc.out 6 _ rfl
          have xcF7 : ∀ p : BelowBy wr, World.cell? p.w ⟨b, z + k * 15 + 7, none⟩ = some (.int .i64 xce) := fun p => HCELL.out p.w (HB.out.trans (p.hb.mono HB.out.size)) k _ HQxc.out 7 _ rfl
          have xcF8 : ∀ p : BelowBy wr, World.cell? p.w ⟨b, z + k * 15 + 8, none⟩ = some (.bool xcd) := fun p => HCELL.out p.w (HB.out.trans (p.hb.mono HB.out.size)) k _ HQxc.out 8 _ rfl
          have xcF9 : ∀ p : BelowBy wr, World.cell? p.w ⟨b, z + k * 15 + 9, none⟩ = some (.int .i64 xcr) := fun p => HCELL.out p.w (HB.out.trans (p.hb.mono HB.out.size)) k _ HQxc.out 9 _ rfl
          have xcF10 : ∀ p : BelowBy wr, World.cell? p.w ⟨b, z + k * 15 + 10, none⟩ = some (.bool xch) := fun p => HCELL.out p.w (HB.out.trans (p.hb.mono HB.out.size)) k _ HQxc.out 10 _ rfl
          have xcF11 : ∀ p : BelowBy wr, World.cell? p.w ⟨b, z + k * 15 + 11, none⟩ = some (.bool xcf) := fun p => HCELL.out p.w (HB.out.trans (p.hb.mono HB.out.size)) k _ HQxc.out 11 _ rfl
          have xcF12 : ∀ p : BelowBy wr, World.cell? p.w ⟨b, z + k * 15 + 12, none⟩ = some (.string xcu) := fun p => HCELL.out p.w (HB.out.trans (p.hb.mono HB.out.size)) k _ HQxc.out 12 _ rfl
          have xcF13 : ∀ p : BelowBy wr, World.cell? p.w ⟨b, z + k * 15 + 13, none⟩ = some (.int .i64 xcn) := fun p => HCELL.out p.w (HB.out.trans (p.hb.mono HB.out.size)) k _ HQxc.out 13 _ rfl
          have xcF14 : ∀ p : BelowBy wr, World.cell? p.w ⟨b, z + k * 15 + 14, none⟩ = some (.slice xcA xcp.length xcc) := fun p => HCELL.out p.w (HB.out.trans (p.hb.mono HB.out.size)) k _ HQxc.out 14 _ rfl
          obtain ⟨b1, hb1⟩ : ∃ x, bef ⟨xat, xai, ⟨xak, xay, xav, xao⟩, xab, xae, xad, ⟨xar, xah, xaf, xau, xan, xap⟩⟩ ⟨xct, xci, ⟨xck, xcy, xcv, xco⟩, xcb, xce, xcd, ⟨xcr, xch, xcf, xcu, xcn, xcp⟩⟩ = x := ⟨_, rfl⟩
          obtain ⟨b2, hb2⟩ : ∃ x, bef ⟨xct, xci, ⟨xck, xcy, xcv, xco⟩, xcb, xce, xcd, ⟨xcr, xch, xcf, xcu, xcn, xcp⟩⟩ ⟨xat, xai, ⟨xak, xay, xav, xao⟩, xab, xae, xad, ⟨xar, xah, xaf, xau, xan, xap⟩⟩ = x := ⟨_, rfl⟩
          have C1 := Lib.hid (fun p : BelowBy wr => calls_bel (p := p) (before_any p.w ⟨xat, xai, ⟨xak, xay, xav, xao⟩, xab, xae, xad, ⟨xar, xah, xaf, xau, xan, xap⟩⟩ ⟨xct, xci, ⟨xck, xcy, xcv, xco⟩, xcb, xce, xcd, ⟨xcr, xch, xcf, xcu, xcn, xcp⟩⟩ (.slice xaA xap.length xac) (.slice xcA xcp.length xcc)))
          unfold encC callC at C1
          dsimp only at C1
          rw [hb1] at C1
          have C2 := Lib.hid (fun p : BelowBy wr => calls_bel (p := p) (before_any p.w ⟨xct, xci, ⟨xck, xcy, xcv, xco⟩, xcb, xce, xcd, ⟨xcr, xch, xcf, xcu, xcn, xcp⟩⟩ ⟨xat, xai, ⟨xak, xay, xav, xao⟩, xab, xae, xad, ⟨xar, xah, xaf, xau, xan, xap⟩⟩ (.slice xcA xcp.length xcc) (.slice xaA xap.length xac)))
          unfold encC callC at C2
          dsimp only at C2
          rw [hb2] at C2
          rw [hb1, hb2] at HOV
          clear hb1 hb2
          cases b1
          all_goals
            as_aux_lemma =>
              cases b2
              all_goals
                as_aux_lemma =>
                  go_wp2_with fail
                  refine wp_region_bel (by kernel_rfl) (by kernel_rfl) ?_
                  repeat (first | go_big_quiet_step ((first | (go_at_call 22; with_reducible exact C1.out _) | (go_at_call 22; with_reducible exact C2.out _))) | quiet_step ((first | (go_at_call 22; with_reducible exact C1.out _) | (go_at_call 22; with_reducible exact C2.out _))))
                  refine wpQuiet_nil ?_
                  intro w5 hw5
                  obtain ⟨⟨w5', hb5⟩, hw5'⟩ := hw5
                  dsimp only at hw5'
                  subst hw5'
                  have HB5 := Lib.hid (HB.out.trans (hb5.mono HB.out.size))
                  clear hb5
                  clear xaF0 xaF1 xaF2 xaF3 xaF4 xaF5 xaF6 xaF7 xaF8 xaF9 xaF10 xaF11 xaF12 xaF13 xaF14 xcF0 xcF1 xcF2 xcF3 xcF4 xcF5 xcF6 xcF7 xcF8 xcF9 xcF10 xcF11 xcF12 xcF13 xcF14
                  have HSC1 := Lib.hid (HSC.out.trans (by rw [HOV.out]))
                  go_wp2_with fail
                  exact ⟨⟨k + 1, by omega, by go_num, by rw [HSC1.out]; first | rfl | go_num, HB5.out⟩, by show i - ((k : Int) + 1).toNat < i - (k : Int).toNat; omega⟩
        · as_aux_lemma =>
            have hke : k = i := by omega
            have HSE := Lib.hid (show sm (fun i => cnt (ovl l i) i) (i + 1) = so + cnt (ovl l i) k from by rw [hke]; exact HSO.out)
            clear hke
            go_wp2_with fail
            exact ⟨⟨i + 1, by omega, by go_num, by rw [HSE.out], HB.out⟩, by show l.length - ((i : Int) + 1).toNat < l.length - (i : Int).toNat; omega⟩
    · as_aux_lemma =>
        have hie : i = l.length := by omega
        have HE := Lib.hid (show sm (fun i => cnt (ovl l i) i) i = overM l from by rw [hie]; exact rfl)
        clear hie
        go_wp2_with fail
        go_ret
        exact ⟨by rw [HE.out]; rfl, HB.out⟩
set_option maxRecDepth 100000 in
set_option maxHeartbeats 16000000 in
theorem overlap_ref (w : World) (v : Value) (l : List CV) (h : Cls w v l) (hn : l.length ≤ 1000) :
    Calls Tryd.prog 31 #[v] w fun e w' => e = .returned (.int .i64 (overM l : Nat)) ∧ Below w.heap.size w w' := by
  obtain ⟨A, cap, rfl, hcap, hc⟩ := h
  have HC := Lib.hid hc
  clear hc
  have HBD := Lib.hid (show ∀ i, i ≤ l.length → sm (fun i => cnt (fun k => decide (i < k) && ovl l i k) l.length) i ≤ 1000000 from fun i hi => by
    have := sm_le (B := 1000) (g := fun i => cnt (fun k => decide (i < k) && ovl l i k) l.length) i (fun j hj => Nat.le_trans (cnt_le _ _) (by omega))
    have h2 := Nat.mul_le_mul_right 1000 (Nat.le_trans hi hn)
    omega)
  go_enter Tryd.func31, Tryd.ntmps31
  go_wp2_with fail
  go_loopw [3, 4] (fun nv iv wr => ∃ i : Nat, i ≤ l.length ∧ iv = .int .i64 i ∧ nv = .int .i64 (sm (fun i => cnt (fun k => decide (i < k) && ovl l i k) l.length) i : Nat) ∧ Below w.heap.size w wr) (fun _ iv _ => l.length - (intOf iv).toNat)
  case atStart => exact ⟨0, Nat.zero_le _, rfl, rfl, Below.refl _ _⟩
  case round =>
    obtain ⟨i, hi, rfl, rfl, hB⟩ := hrel
    have HB := Lib.hid hB
    clear hB
    by_cases hil : i < l.length
    · have hbd := HBD.out i hi
      obtain ⟨so, hso⟩ : ∃ x, x = sm (fun i => cnt (fun k => decide (i < k) && ovl l i k) l.length) i := ⟨_, rfl⟩
      have HSO := Lib.hid (show sm (fun i => cnt (fun k => decide (i < k) && ovl l i k) l.length) (i + 1) = so + cnt (fun k => decide (i < k) && ovl l i k) l.length from by rw [hso]; rfl)
      rw [← hso] at hbd ⊢
      clear hso
      obtain ⟨b, z, hAz⟩ : ∃ b z, A = some ⟨b, z, none⟩ := by
        obtain ⟨_, b, z, e, _⟩ := HC.out i _ (List.getElem?_eq_getElem hil)
        exact ⟨b, z, e⟩
      subst hAz
      have HCELL := Lib.hid (show ∀ W, Below w.heap.size w W → ∀ j q, l[j]? = some q → ∀ t u, (callC q.1 q.2)[t]? = some u → W.cell? ⟨b, z + j * 15 + t, none⟩ = some u from fun W hW j q hq t u hu => by
        obtain ⟨_, b', z', e, hb', hc'⟩ := HC.out j q hq
        injection e with e
        injection e with e1 e2
        subst e1; subst e2
        exact (hW.cell (p := ⟨b, z + j * 15 + t, none⟩) hb').trans (hc' t u hu))
      go_wp2_with fail
      go_loopw [3, 5] (fun nv kv wr => ∃ k : Nat, i + 1 ≤ k ∧ k ≤ l.length ∧ kv = .int .i64 k ∧ nv = .int .i64 ((so + cnt (fun k => decide (i < k) && ovl l i k) k : Nat) : Int) ∧ Below w.heap.size w wr) (fun _ kv _ => l.length - (intOf kv).toNat)
      case atStart => exact ⟨i + 1, Nat.le_refl _, by omega, by go_num, by rw [cnt_none (i + 1) (fun j hj => by rw [decide_eq_false (by omega)]; rfl)]; rfl, HB.out⟩
      case round =>
        obtain ⟨k, hk0, hk, rfl, rfl, hB⟩ := hrel
        have HB := Lib.hid hB
        clear hB
        by_cases hkl : k < l.length
        · have hcb := cnt_le (fun k => decide (i < k) && ovl l i k) k
          obtain ⟨sc, hsc⟩ : ∃ x, x = so + cnt (fun k => decide (i < k) && ovl l i k) k := ⟨_, rfl⟩
          have hscb : sc ≤ 1002000 := by omega
          have HSC := Lib.hid (show so + cnt (fun k => decide (i < k) && ovl l i k) (k + 1) = sc + if ovl l i k then 1 else 0 from by rw [hsc]; show so + (cnt _ k + (if (decide (i < k) && ovl l i k) = true then 1 else 0)) = _; rw [decide_eq_true (by omega : i < k), Bool.true_and]; omega)
          rw [← hsc]
          clear hsc hcb
          obtain ⟨⟨⟨xat, xai, ⟨xak, xay, xav, xao⟩, xab, xae, xad, ⟨xar, xah, xaf, xau, xan, xap⟩⟩, xaw⟩, hqxa⟩ : ∃ q, l[i]? = some q := ⟨_, List.getElem?_eq_getElem (by omega)⟩
          obtain ⟨xaA, xac, hwxa⟩ := prs_shape (HC.out i _ hqxa).1
          dsimp only at hwxa
          subst hwxa
          have HQxa := Lib.hid hqxa
          clear hqxa
          obtain ⟨⟨⟨xct, xci, ⟨xck, xcy, xcv, xco⟩, xcb, xce, xcd, ⟨xcr, xch, xcf, xcu, xcn, xcp⟩⟩, xcw⟩, hqxc⟩ : ∃ q, l[k]? = some q := ⟨_, List.getElem?_eq_getElem (by omega)⟩
          obtain ⟨xcA, xcc, hwxc⟩ := prs_shape (HC.out k _ hqxc).1
          dsimp only at hwxc
          subst hwxc
          have HQxc := Lib.hid hqxc
          clear hqxc
          have HOV := Lib.hid (show ovl l i k = (!bef ⟨xat, xai, ⟨xak, xay, xav, xao⟩, xab, xae, xad, ⟨xar, xah, xaf, xau, xan, xap⟩⟩ ⟨xct, xci, ⟨xck, xcy, xcv, xco⟩, xcb, xce, xcd, ⟨xcr, xch, xcf, xcu, xcn, xcp⟩⟩ && !bef ⟨xct, xci, ⟨xck, xcy, xcv, xco⟩, xcb, xce, xcd, ⟨xcr, xch, xcf, xcu, xcn, xcp⟩⟩ ⟨xat, xai, ⟨xak, xay, xav, xao⟩, xab, xae, xad, ⟨xar, xah, xaf, xau, xan, xap⟩⟩) from by unfold ovl; rw [callAt_eq HQxa.out, callAt_eq HQxc.out])
          have xaF0 : ∀ p : BelowBy wr, World.cell? p.w ⟨b, z + i * 15, none⟩ = some (.int .i64 xat) := fun p => HCELL.out p.w (HB.out.trans (p.hb.mono HB.out.size)) i _ HQxa.out 0 _ rfl
          have xaF1 : ∀ p : BelowBy wr, World.cell? p.w ⟨b, z + i * 15 + 1, none⟩ = some (.int .i64 xai) := fun p => HCELL.out p.w (HB.out.trans (p.hb.mono HB.out.size)) i _ HQxa.out 1 _ rfl
          have xaF2 : ∀ p : BelowBy wr, World.cell? p.w ⟨b, z + i * 15 + 2, none⟩ = some (.int .i64 xak) := fun p => HCELL.out p.w (HB.out.trans (p.hb.mono HB.out.size)) i _ HQxa.out 2 _ rfl
          have xaF3 : ∀ p : BelowBy wr, World.cell? p.w ⟨b, z + i * 15 + 3, none⟩ = some (.string xay) := fun p => HCELL.out p.w (HB.out.trans (p.hb.mono HB.out.size)) i _ HQxa.out 3 _ rfl
          have xaF4 : ∀ p : BelowBy wr, World.cell? p.w ⟨b, z + i * 15 + 4, none⟩ = some (.string xav) := fun p => HCELL.out p.w (HB.out.trans (p.hb.mono HB.out.size)) i _ HQxa.out 4 _ rfl
          have xaF5 : ∀ p : BelowBy wr, World.cell? p.w ⟨b, z + i * 15 + 5, none⟩ = some (.string xao) := fun p => HCELL.out p.w (HB.out.trans (p.hb.mono HB.out.size)) i _ HQxa.out 5 _ rfl
          have xaF6 : ∀ p : BelowBy wr, World.cell? p.w ⟨b, z + i * 15 + 6, none⟩ = some (.int .i64 xab) := fun p => HCELL.out p.w (HB.out.trans (p.hb.mono HB.out.size)) i _ HQxa.out 6 _ rfl
          have xaF7 : ∀ p : BelowBy wr, World.cell? p.w ⟨b, z + i * 15 + 7, none⟩ = some (.int .i64 xae) := fun p => HCELL.out p.w (HB.out.trans (p.hb.mono HB.out.size)) i _ HQxa.out 7 _ rfl
          have xaF8 : ∀ p : BelowBy wr, World.cell? p.w ⟨b, z + i * 15 + 8, none⟩ = some (.bool xad) := fun p => HCELL.out p.w (HB.out.trans (p.hb.mono HB.out.size)) i _ HQxa.out 8 _ rfl
          have xaF9 : ∀ p : BelowBy wr, World.cell? p.w ⟨b, z + i * 15 + 9, none⟩ = some (.int .i64 xar) := fun p => HCELL.out p.w (HB.out.trans (p.hb.mono HB.out.size)) i _ HQxa.out 9 _ rfl
          have xaF10 : ∀ p : BelowBy wr, World.cell? p.w ⟨b, z + i * 15 + 10, none⟩ = some (.bool xah) := fun p => HCELL.out p.w (HB.out.trans (p.hb.mono HB.out.size)) i _ HQxa.out 10 _ rfl
          have xaF11 : ∀ p : BelowBy wr, World.cell? p.w ⟨b, z + i * 15 + 11, none⟩ = some (.bool xaf) := fun p => HCELL.out p.w (HB.out.trans (p.hb.mono HB.out.size)) i _ HQxa.out 11 _ rfl
          have xaF12 : ∀ p : BelowBy wr, World.cell? p.w ⟨b, z + i * 15 + 12, none⟩ = some (.string xau) := fun p => HCELL.out p.w (HB.out.trans (p.hb.mono HB.out.size)) i _ HQxa.out 12 _ rfl
          have xaF13 : ∀ p : BelowBy wr, World.cell? p.w ⟨b, z + i * 15 + 13, none⟩ = some (.int .i64 xan) := fun p => HCELL.out p.w (HB.out.trans (p.hb.mono HB.out.size)) i _ HQxa.out 13 _ rfl
          have xaF14 : ∀ p : BelowBy wr, World.cell? p.w ⟨b, z + i * 15 + 14, none⟩ = some (.slice xaA xap.length xac) := fun p => HCELL.out p.w (HB.out.trans (p.hb.mono HB.out.size)) i _ HQxa.out 14 _ rfl
          have xcF0 : ∀ p : BelowBy wr, World.cell? p.w ⟨b, z + k * 15, none⟩ = some (.int .i64 xct) := fun p => HCELL.out p.w (HB.out.trans (p.hb.mono HB.out.size)) k _ HQxc.out 0 _ rfl
          have xcF1 : ∀ p : BelowBy wr, World.cell? p.w ⟨b, z + k * 15 + 1, none⟩ = some (.int .i64 xci) := fun p => HCELL.out p.w (HB.out.trans (p.hb.mono HB.out.size)) k _ HQxc.out 1 _ rfl
          have xcF2 : ∀ p : BelowBy wr, World.cell? p.w ⟨b, z + k * 15 + 2, none⟩ = some (.int .i64 xck) := fun p => HCELL.out p.w (HB.out.trans (p.hb.mono HB.out.size)) k _ HQxc.out 2 _ rfl
          have xcF3 : ∀ p : BelowBy wr, World.cell? p.w ⟨b, z + k * 15 + 3, none⟩ = some (.string xcy) := fun p => HCELL.out p.w (HB.out.trans (p.hb.mono HB.out.size)) k _ HQxc.out 3 _ rfl
          have xcF4 : ∀ p : BelowBy wr, World.cell? p.w ⟨b, z + k * 15 + 4, none⟩ = some (.string xcv) := fun p => HCELL.out p.w (HB.out.trans (p.hb.mono HB.out.size)) k _ HQxc.out 4 _ rfl
          have xcF5 : ∀ p : BelowBy wr, World.cell? p.w ⟨b, z + k * 15 + 5, none⟩ = some (.string xco) := fun p => HCELL.out p.w (HB.out.trans (p.hb.mono HB.out.size)) k _ HQxc.out 5 _ rfl
          have xcF6 : ∀ p : BelowBy wr, World.cell? p.w ⟨b, z + k * 15 + 6, none⟩ = some (.int .i64 xcb) := fun p => HCELL.out p.w (HB.out.trans (p.hb.mono HB.out.size)) k _ HQxc.out 6 _ rfl
          have xcF7 : ∀ p : BelowBy wr, World.cell? p.w ⟨b, z + k * 15 + 7, none⟩ = some (.int .i64 xce) := fun p => HCELL.out p.w (HB.out.trans (p.hb.mono HB.out.size)) k _ HQxc.out 7 _ rfl
          have xcF8 : ∀ p : BelowBy wr, World.cell? p.w ⟨b, z + k * 15 + 8, none⟩ = some (.bool xcd) := fun p => HCELL.out p.w (HB.out.trans (p.hb.mono HB.out.size)) k _ HQxc.out 8 _ rfl
          have xcF9 : ∀ p : BelowBy wr, World.cell? p.w ⟨b, z + k * 15 + 9, none⟩ = some (.int .i64 xcr) := fun p => HCELL.out p.w (HB.out.trans (p.hb.mono HB.out.size)) k _ HQxc.out 9 _ rfl
          have xcF10 : ∀ p : BelowBy wr, World.cell? p.w ⟨b, z + k * 15 + 10, none⟩ = some (.bool xch) := fun p => HCELL.out p.w (HB.out.trans (p.hb.mono HB.out.size)) k _ HQxc.out 10 _ rfl
          have xcF11 : ∀ p : BelowBy wr, World.cell? p.w ⟨b, z + k * 15 + 11, none⟩ = some (.bool xcf) := fun p => HCELL.out p.w (HB.out.trans (p.hb.mono HB.out.size)) k _ HQxc.out 11 _ rfl
          have xcF12 : ∀ p : BelowBy wr, World.cell? p.w ⟨b, z + k * 15 + 12, none⟩ = some (.string xcu) := fun p => HCELL.out p.w (HB.out.trans (p.hb.mono HB.out.size)) k _ HQxc.out 12 _ rfl
          have xcF13 : ∀ p : BelowBy wr, World.cell? p.w ⟨b, z + k * 15 + 13, none⟩ = some (.int .i64 xcn) := fun p => HCELL.out p.w (HB.out.trans (p.hb.mono HB.out.size)) k _ HQxc.out 13 _ rfl
          have xcF14 : ∀ p : BelowBy wr, World.cell? p.w ⟨b, z + k * 15 + 14, none⟩ = some (.slice xcA xcp.length xcc) := fun p => HCELL.out p.w (HB.out.trans (p.hb.mono HB.out.size)) k _ HQxc.out 14 _ rfl
          obtain ⟨b1, hb1⟩ : ∃ x, bef ⟨xat, xai, ⟨xak, xay, xav, xao⟩, xab, xae, xad, ⟨xar, xah, xaf, xau, xan, xap⟩⟩ ⟨xct, xci, ⟨xck, xcy, xcv, xco⟩, xcb, xce, xcd, ⟨xcr, xch, xcf, xcu, xcn, xcp⟩⟩ = x := ⟨_, rfl⟩
          obtain ⟨b2, hb2⟩ : ∃ x, bef ⟨xct, xci, ⟨xck, xcy, xcv, xco⟩, xcb, xce, xcd, ⟨xcr, xch, xcf, xcu, xcn, xcp⟩⟩ ⟨xat, xai, ⟨xak, xay, xav, xao⟩, xab, xae, xad, ⟨xar, xah, xaf, xau, xan, xap⟩⟩ = x := ⟨_, rfl⟩
          have C1 := Lib.hid (fun p : BelowBy wr => calls_bel (p := p) (before_ref p.w ⟨xat, xai, ⟨xak, xay, xav, xao⟩, xab, xae, xad, ⟨xar, xah, xaf, xau, xan, xap⟩⟩ ⟨xct, xci, ⟨xck, xcy, xcv, xco⟩, xcb, xce, xcd, ⟨xcr, xch, xcf, xcu, xcn, xcp⟩⟩ (.slice xaA xap.length xac) (.slice xcA xcp.length xcc)))
          unfold encC callC at C1
          dsimp only at C1
          rw [hb1] at C1
          have C2 := Lib.hid (fun p : BelowBy wr => calls_bel (p := p) (before_ref p.w ⟨xct, xci, ⟨xck, xcy, xcv, xco⟩, xcb, xce, xcd, ⟨xcr, xch, xcf, xcu, xcn, xcp⟩⟩ ⟨xat, xai, ⟨xak, xay, xav, xao⟩, xab, xae, xad, ⟨xar, xah, xaf, xau, xan, xap⟩⟩ (.slice xcA xcp.length xcc) (.slice xaA xap.length xac)))
          unfold encC callC at C2
          dsimp only at C2
          rw [hb2] at C2
          rw [hb1, hb2] at HOV
          clear hb1 hb2
          cases b1
          all_goals
            as_aux_lemma =>
              cases b2
              all_goals
                as_aux_lemma =>
                  go_wp2_with fail
                  refine wp_region_bel (by kernel_rfl) (by kernel_rfl) ?_
                  repeat (first | go_big_quiet_step ((first | (go_at_call 23; with_reducible exact C1.out _) | (go_at_call 23; with_reducible exact C2.out _))) | quiet_step ((first | (go_at_call 23; with_reducible exact C1.out _) | (go_at_call 23; with_reducible exact C2.out _))))
                  refine wpQuiet_nil ?_
                  intro w5 hw5
                  obtain ⟨⟨w5', hb5⟩, hw5'⟩ := hw5
                  dsimp only at hw5'
                  subst hw5'
                  have HB5 := Lib.hid (HB.out.trans (hb5.mono HB.out.size))
                  clear hb5
                  clear xaF0 xaF1 xaF2 xaF3 xaF4 xaF5 xaF6 xaF7 xaF8 xaF9 xaF10 xaF11 xaF12 xaF13 xaF14 xcF0 xcF1 xcF2 xcF3 xcF4 xcF5 xcF6 xcF7 xcF8 xcF9 xcF10 xcF11 xcF12 xcF13 xcF14
                  have HSC1 := Lib.hid (HSC.out.trans (by rw [HOV.out]))
                  go_wp2_with fail
                  exact ⟨⟨k + 1, by omega, by omega, by go_num, by rw [HSC1.out]; first | rfl | go_num, HB5.out⟩, by show l.length - ((k : Int) + 1).toNat < l.length - (k : Int).toNat; omega⟩
        · as_aux_lemma =>
            have hke : k = l.length := by omega
            have HSE := Lib.hid (show sm (fun i => cnt (fun k => decide (i < k) && ovl l i k) l.length) (i + 1) = so + cnt (fun k => decide (i < k) && ovl l i k) k from by rw [hke]; exact HSO.out)
            clear hke
            go_wp2_with fail
            exact ⟨⟨i + 1, by omega, by go_num, by rw [HSE.out], HB.out⟩, by show l.length - ((i : Int) + 1).toNat < l.length - (i : Int).toNat; omega⟩
    · as_aux_lemma =>
        have hie : i = l.length := by omega
        have HE := Lib.hid (show sm (fun i => cnt (fun k => decide (i < k) && ovl l i k) l.length) i = overM l from by rw [hie]; exact over_ref l)
        clear hie
        go_wp2_with fail
        go_ret
        exact ⟨by rw [HE.out]; rfl, HB.out⟩
end Go.Proofs.YtdibkhddhgaghaaDoor.Hs
