/- HistOrder: to be ahead is an order, each thread's calls stand one behind the other, and what is printed is parsed again: the walk. -/
import Derived.Test.YtdibkhddhgaghaaDoorHistAwake
import Derived.Test.YtdibkhddhgaghaaDoorHistLight
namespace Go.Proofs.YtdibkhddhgaghaaDoor.Hs
open Go.RowKit Bq
set_option linter.unusedVariables false
set_option linter.unusedSimpArgs false
theorem words_short {c : CallL} (h : Pok c) (ht : textsOk c = true) : ∀ t ∈ word15 c ++ wordsP c.reply.pairs, t.size ≤ 511 := by
  intro t hm
  unfold textsOk at ht
  simp only [Bool.and_eq_true, decide_eq_true_eq, List.all_eq_true] at ht
  obtain ⟨⟨⟨⟨t1, t2⟩, t3⟩, t4⟩, t5⟩ := ht
  obtain ⟨⟨i1, i2, i3, i4, i5, i6, i7⟩, _, few, _⟩ := h
  rcases List.mem_append.1 hm with hm | hm
  · unfold word15 at hm
    simp only [List.mem_cons, List.not_mem_nil, or_false] at hm
    rcases hm with rfl | rfl | rfl | rfl | rfl | rfl | rfl | rfl | rfl | rfl | rfl | rfl | rfl | rfl | rfl
    all_goals first
      | (have := bit_len c.done; omega)
      | (have := bit_len c.reply.had; omega)
      | (have := bit_len c.reply.did; omega)
      | (have := itoa_len c.thread i1; omega)
      | (have := itoa_len c.index i2; omega)
      | (have := itoa_len c.op.kind i3; omega)
      | (have := itoa_len c.begin_ i4; omega)
      | (have := itoa_len c.end_ i5; omega)
      | (have := itoa_len c.reply.err i6; omega)
      | (have := itoa_len c.reply.n i7; omega)
      | (have := itoa_len (c.reply.pairs.length : Int) ⟨by omega, by omega⟩; omega)
      | (have := hxp_len c.op.key; omega)
      | (have := hxp_len c.op.value; omega)
      | (have := hxp_len c.op.old; omega)
      | (have := hxp_len c.reply.value; omega)
  · unfold wordsP at hm
    obtain ⟨p, hpm, hm⟩ := List.mem_flatMap.1 hm
    have h2 := t5 p hpm
    simp only [List.mem_cons, List.not_mem_nil, or_false] at hm
    rcases hm with rfl | rfl
    · have := hxp_len p.1; omega
    · have := hxp_len p.2; omega
theorem line_short {c : CallL} (h : Pok c) (ht : textsOk c = true) : (lineP c).length ≤ 7681 + 1024 * c.reply.pairs.length := by
  rw [line_eq, jn_words, List.length_append]
  have h1 := jn_len 511 ((word15 c ++ wordsP c.reply.pairs).map (·.data.toList)) (fun p hp => by
    obtain ⟨t, ht', rfl⟩ := List.mem_map.1 hp
    have := words_short h ht t ht'
    rw [DgW.size_list]; exact this)
  have h3 := wordsL_len c _ (Nat.le_refl _)
  rw [wordsL_all] at h3
  rw [List.length_map, h3] at h1
  simp only [List.length_singleton]
  omega
theorem print_short : ∀ (l : List CV), (∀ q ∈ l, alone q.1 = true) → (printM (l.map (·.1))).length ≤ l.length * 7681 + 1024 * sumP l
  | [], _ => by simp [printM]
  | q :: l, h => by
    have ha := h q (by simp)
    have h1 := line_short (alone_pok ha) (alone_nums ha).2.1
    have h2 := print_short l (fun x hx => h x (List.mem_cons_of_mem _ hx))
    have hs : sumP (q :: l) = few q + sumP l := by simp [sumP]
    have hf : few q = q.1.reply.pairs.length := rfl
    unfold printM at h2 ⊢
    rw [List.map_cons, List.flatMap_cons, List.length_append, List.length_cons, hs, hf]
    omega
/-- What the law's argument may be. -/
structure Arg (l : List CV) : Prop where
  len : l.length ≤ maxLen
  few : ∀ q ∈ l, Hs.few q ≤ maxLen
  kind : ∀ q ∈ l, -9223372036854775808 ≤ q.1.op.kind ∧ q.1.op.kind ≤ 9223372036854775807
  thread : ∀ q ∈ l, -9223372036854775808 ≤ q.1.thread ∧ q.1.thread ≤ 9223372036854775807
set_option maxRecDepth 100000 in
set_option maxHeartbeats 16000000 in
theorem order_any (w : World) (v : Value) (l : List CV) (h : Cls w v l) (ha : Arg l) (hv : Wv w) :
    Calls Tryd.prog 5 #[v] w fun e w' => e = .returned (.bool true) ∧ Below w.heap.size w w' := by
  have HL := Lib.hid (light_any w v l h ha.len ha.few)
  have HAW := Lib.hid (fun W (hW : Below w.heap.size w W) => awake_any W (hv.below hW))
  have HV := Lib.hid hv
  have HCL := Lib.hid h
  have HAR := Lib.hid ha
  obtain ⟨A, cap, rfl, hcap, hc⟩ := h
  have HC := Lib.hid hc
  unfold LightPost at HL
  clear hc ha hv
  go_enter Tryd.func5, Tryd.ntmps5
  go_wp2_with fail
  refine HL.out.mono ?_
  rintro e w1 ⟨b, rfl, hw1, hL⟩
  subst hw1
  cases b with
  | false =>
    as_aux_lemma =>
      go_wp2_with fail
      refine (HAW.out w1 (Below.refl _ _)).mono ?_
      rintro e w2 ⟨rfl, hb2⟩
      have HB2 := Lib.hid hb2
      clear hb2
      go_wp2_with fail
      go_ret
      exact ⟨rfl, HB2.out⟩
  | true =>
  have HLT := Lib.hid (hL rfl)
  clear hL
  have HR := Lib.hid (right_any w1 l _ (by have := HLT.out.1; omega) HCL.out (fun q hq => ⟨by have := HLT.out.2.1 q hq; unfold few at this; omega, HAR.out.kind q hq, HAR.out.thread q hq⟩))
  obtain ⟨rb, hrb⟩ : ∃ rb, rightM l = rb := ⟨_, rfl⟩
  rw [hrb] at HR
  have HRT := Lib.hid hrb
  clear hrb
  cases rb with
  | false =>
    as_aux_lemma =>
      go_wp2_with fail
      refine HR.out.mono ?_
      rintro e w2 ⟨rfl, hb2⟩
      have HB2 := Lib.hid hb2
      clear hb2
      go_wp2_with fail
      refine (HAW.out w2 HB2.out).mono ?_
      rintro e w3 ⟨rfl, hb3⟩
      have HB3 := Lib.hid (HB2.out.trans (hb3.mono HB2.out.size))
      clear hb3
      go_wp2_with fail
      go_ret
      exact ⟨rfl, HB3.out⟩
  | true =>
  go_wp2_with fail
  refine HR.out.mono ?_
  rintro e w2 ⟨rfl, hb2⟩
  have HB2 := Lib.hid hb2
  have hl30 := HLT.out.1
  clear hb2
  go_wp2_with fail
  go_loopw [3] (fun iv wr => ∃ i : Nat, i ≤ l.length ∧ iv = .int .i64 i ∧ Below w1.heap.size w1 wr) (fun iv _ => l.length - (intOf iv).toNat)
  case atStart => exact ⟨0, Nat.zero_le _, rfl, HB2.out⟩
  case round =>
    obtain ⟨i, hi, rfl, hB⟩ := hrel
    have HB := Lib.hid hB
    clear hB
    by_cases hil : i < l.length
    · as_aux_lemma =>
        obtain ⟨b, z, hAz⟩ : ∃ b z, A = some ⟨b, z, none⟩ := by
          obtain ⟨_, b, z, e, _⟩ := HC.out i _ (List.getElem?_eq_getElem hil)
          exact ⟨b, z, e⟩
        subst hAz
        have HCELL := Lib.hid (show ∀ W, Below w1.heap.size w1 W → ∀ j q, l[j]? = some q → ∀ t u, (callC q.1 q.2)[t]? = some u → W.cell? ⟨b, z + j * 15 + t, none⟩ = some u from fun W hW j q hq t u hu => by
          obtain ⟨_, b', z', e, hb', hc'⟩ := HC.out j q hq
          injection e with e
          injection e with e1 e2
          subst e1; subst e2
          exact (hW.cell (p := ⟨b, z + j * 15 + t, none⟩) hb').trans (hc' t u hu))
        obtain ⟨⟨⟨xat, xai, ⟨xak, xay, xav, xao⟩, xab, xae, xad, ⟨xar, xah, xaf, xau, xan, xap⟩⟩, xaw⟩, hqxa⟩ : ∃ q, l[i]? = some q := ⟨_, List.getElem?_eq_getElem (by assumption)⟩
        have HAxa := Lib.hid (right_alone HRT.out _ (List.mem_of_getElem? hqxa))
        dsimp only at HAxa
        obtain ⟨xaA, xac, hwxa⟩ := prs_shape (HC.out i _ hqxa).1
        dsimp only at hwxa
        subst hwxa
        have HQxa := Lib.hid hqxa
        clear hqxa
        have xaF0 : ∀ p : BelowBy wr, World.cell? p.w ⟨b, z + i * 15, none⟩ = some (.int .i64 xat) := fun p => HCELL.out p.w (HB.out.trans (p.hb.mono HB.out.size)) i _ HQxa.out 0 _ rfl
        have xaF1 : ∀ p : BelowBy wr, World.cell? p.w ⟨b, z + i * 15 + 1, none⟩ = some (.int .i64 xai) := fun p => HCELL.out p.w (HB.out.trans (p.hb.mono HB.out.size)) i _ HQxa.out 1 _ rfl
        have xaF2 : ∀ p : BelowBy wr, World.cell? p.w ⟨b, z + i * 15 + 2, none⟩ = some (.int .i64 xak) := fun p => HCELL.out p.w (HB.out.trans (p.hb.mono HB.out.size)) i _ HQxa.out 2 _ rfl
        have xaF3 : ∀ p : BelowBy wr, World.cell? p.w ⟨b, z + i * 15 + 3, none⟩ = some (.string xay) := fun p => HCELL.out p.w (HB.out.trans (p.hb.mono HB.out.size)) i _ HQxa.out 3 _ rfl
        have xaF4 : ∀ p : BelowBy wr, World.cell? p.w ⟨b, z + i * 15 + 4, none⟩ = some (.string xav) := fun p => HCELL.out p.w (HB.out.trans (p.hb.mono HB.out.size)) i _ HQxa.out 4 _ rfl
        have xaF5 : ∀ p : BelowBy wr, World.cell? p.w ⟨b, z + i * 15 + 5, none⟩ = some (.string xao) := fun p => HCELL.out p.w (HB.out.trans (p.hb.mono HB.out.size)) i _ HQxa.out 5 _ rfl
        have xaF6 : ∀ p : BelowBy wr, World.cell? p.w ⟨b, z + i * 15 + 6, none⟩ = some (.int .i64 xab) := fun p => HCELL.out p.w (HB.out.trans (p.hb.mono HB.out.size)) i _ HQxa.out 6 _ rfl
        have xaF7 : ∀ p : BelowBy wr, World.cell? p.w ⟨b, z + i * 15 + 7, none⟩ = some (.int .i64 xae) := fun p => HCELL.out p.w (HB.out.trans (p.hb.mono HB.out.size)) i _ HQxa.out 7 _ rfl
        have xaF8 : ∀ p : BelowBy wr, World.cell? p.w ⟨b, z + i * 15 + 8, none⟩ = some (.bool xad) := fun p => HCELL.out p.w (HB.out.trans (p.hb.mono HB.out.size)) i _ HQxa.out 8 _ rfl
        have xaF9 : ∀ p : BelowBy wr, World.cell? p.w ⟨b, z + i * 15 + 9, none⟩ = some (.int .i64 xar) := fun p => HCELL.out p.w (HB.out.trans (p.hb.mono HB.out.size)) i _ HQxa.out 9 _ rfl
        have xaF10 : ∀ p : BelowBy wr, World.cell? p.w ⟨b, z + i * 15 + 10, none⟩ = some (.bool xah) := fun p => HCELL.out p.w (HB.out.trans (p.hb.mono HB.out.size)) i _ HQxa.out 10 _ rfl
        have xaF11 : ∀ p : BelowBy wr, World.cell? p.w ⟨b, z + i * 15 + 11, none⟩ = some (.bool xaf) := fun p => HCELL.out p.w (HB.out.trans (p.hb.mono HB.out.size)) i _ HQxa.out 11 _ rfl
        have xaF12 : ∀ p : BelowBy wr, World.cell? p.w ⟨b, z + i * 15 + 12, none⟩ = some (.string xau) := fun p => HCELL.out p.w (HB.out.trans (p.hb.mono HB.out.size)) i _ HQxa.out 12 _ rfl
        have xaF13 : ∀ p : BelowBy wr, World.cell? p.w ⟨b, z + i * 15 + 13, none⟩ = some (.int .i64 xan) := fun p => HCELL.out p.w (HB.out.trans (p.hb.mono HB.out.size)) i _ HQxa.out 13 _ rfl
        have xaF14 : ∀ p : BelowBy wr, World.cell? p.w ⟨b, z + i * 15 + 14, none⟩ = some (.slice xaA xap.length xac) := fun p => HCELL.out p.w (HB.out.trans (p.hb.mono HB.out.size)) i _ HQxa.out 14 _ rfl
        have CII := Lib.hid (fun p : BelowBy wr => calls_bel (p := p) (before_any p.w ⟨xat, xai, ⟨xak, xay, xav, xao⟩, xab, xae, xad, ⟨xar, xah, xaf, xau, xan, xap⟩⟩ ⟨xat, xai, ⟨xak, xay, xav, xao⟩, xab, xae, xad, ⟨xar, xah, xaf, xau, xan, xap⟩⟩ (.slice xaA xap.length xac) (.slice xaA xap.length xac)))
        unfold encC callC at CII
        dsimp only at CII
        rw [bef_irr HAxa.out] at CII
        go_wp2_with fail
        refine wp_region_bel (by kernel_rfl) (by kernel_rfl) ?_
        repeat (first | go_big_quiet_step ((go_at_call 22; exact CII.out _)) | quiet_step ((go_at_call 22; exact CII.out _)))
        refine wpQuiet_nil ?_
        intro w5 hw5
        obtain ⟨⟨w5', hb5⟩, hw5'⟩ := hw5
        dsimp only at hw5'
        subst hw5'
        have HB5 := Lib.hid (HB.out.trans (hb5.mono HB.out.size))
        clear hb5
        clear xaF0 xaF1 xaF2 xaF3 xaF4 xaF5 xaF6 xaF7 xaF8 xaF9 xaF10 xaF11 xaF12 xaF13 xaF14
        have HB5a := Lib.hid HB5.out
        go_wp2_with fail
        go_loopw [4] (fun jv wr => ∃ j : Nat, j ≤ l.length ∧ jv = .int .i64 j ∧ Below w1.heap.size w1 wr) (fun jv _ => l.length - (intOf jv).toNat)
        case atStart => exact ⟨0, Nat.zero_le _, rfl, HB5a.out⟩
        case round =>
          obtain ⟨j, hj, rfl, hB⟩ := hrel
          have HB := Lib.hid hB
          clear hB
          by_cases hjl : j < l.length
          · as_aux_lemma =>
              obtain ⟨⟨⟨xct, xci, ⟨xck, xcy, xcv, xco⟩, xcb, xce, xcd, ⟨xcr, xch, xcf, xcu, xcn, xcp⟩⟩, xcw⟩, hqxc⟩ : ∃ q, l[j]? = some q := ⟨_, List.getElem?_eq_getElem (by assumption)⟩
              have HAxc := Lib.hid (right_alone HRT.out _ (List.mem_of_getElem? hqxc))
              dsimp only at HAxc
              obtain ⟨xcA, xcc, hwxc⟩ := prs_shape (HC.out j _ hqxc).1
              dsimp only at hwxc
              subst hwxc
              have HQxc := Lib.hid hqxc
              clear hqxc
              have HRD := Lib.hid (show decide (j < i) = false ∨ (decide (j < i) = true ∧ (xct == xat) = false) ∨ (decide (j < i) = true ∧ (xct == xat) = true ∧ bef ⟨xct, xci, ⟨xck, xcy, xcv, xco⟩, xcb, xce, xcd, ⟨xcr, xch, xcf, xcu, xcn, xcp⟩⟩ ⟨xat, xai, ⟨xak, xay, xav, xao⟩, xab, xae, xad, ⟨xar, xah, xaf, xau, xan, xap⟩⟩ = true) from by
                by_cases h1 : j < i
                · by_cases h2 : xct = xat
                  · exact Or.inr (Or.inr ⟨decide_eq_true h1, by simpa using h2, chain HRT.out i j _ _ HQxa.out HQxc.out h1 h2⟩)
                  · exact Or.inr (Or.inl ⟨decide_eq_true h1, by simpa using h2⟩)
                · exact Or.inl (decide_eq_false h1))
              have xaF0 : ∀ p : BelowBy wr, World.cell? p.w ⟨b, z + i * 15, none⟩ = some (.int .i64 xat) := fun p => HCELL.out p.w (HB.out.trans (p.hb.mono HB.out.size)) i _ HQxa.out 0 _ rfl
              have xaF1 : ∀ p : BelowBy wr, World.cell? p.w ⟨b, z + i * 15 + 1, none⟩ = some (.int .i64 xai) := fun p => HCELL.out p.w (HB.out.trans (p.hb.mono HB.out.size)) i _ HQxa.out 1 _ rfl
              have xaF2 : ∀ p : BelowBy wr, World.cell? p.w ⟨b, z + i * 15 + 2, none⟩ = some (.int .i64 xak) := fun p => HCELL.out p.w (HB.out.trans (p.hb.mono HB.out.size)) i _ HQxa.out 2 _ rfl
              have xaF3 : ∀ p : BelowBy wr, World.cell? p.w ⟨b, z + i * 15 + 3, none⟩ = some (.string xay) := fun p => HCELL.out p.w (HB.out.trans (p.hb.mono HB.out.size)) i _ HQxa.out 3 _ rfl
              have xaF4 : ∀ p : BelowBy wr, World.cell? p.w ⟨b, z + i * 15 + 4, none⟩ = some (.string xav) := fun p => HCELL.out p.w (HB.out.trans (p.hb.mono HB.out.size)) i _ HQxa.out 4 _ rfl
              have xaF5 : ∀ p : BelowBy wr, World.cell? p.w ⟨b, z + i * 15 + 5, none⟩ = some (.string xao) := fun p => HCELL.out p.w (HB.out.trans (p.hb.mono HB.out.size)) i _ HQxa.out 5 _ rfl
              have xaF6 : ∀ p : BelowBy wr, World.cell? p.w ⟨b, z + i * 15 + 6, none⟩ = some (.int .i64 xab) := fun p => HCELL.out p.w (HB.out.trans (p.hb.mono HB.out.size)) i _ HQxa.out 6 _ rfl
              have xaF7 : ∀ p : BelowBy wr, World.cell? p.w ⟨b, z + i * 15 + 7, none⟩ = some (.int .i64 xae) := fun p => HCELL.out p.w (HB.out.trans (p.hb.mono HB.out.size)) i _ HQxa.out 7 _ rfl
              have xaF8 : ∀ p : BelowBy wr, World.cell? p.w ⟨b, z + i * 15 + 8, none⟩ = some (.bool xad) := fun p => HCELL.out p.w (HB.out.trans (p.hb.mono HB.out.size)) i _ HQxa.out 8 _ rfl
              have xaF9 : ∀ p : BelowBy wr, World.cell? p.w ⟨b, z + i * 15 + 9, none⟩ = some (.int .i64 xar) := fun p => HCELL.out p.w (HB.out.trans (p.hb.mono HB.out.size)) i _ HQxa.out 9 _ rfl
              have xaF10 : ∀ p : BelowBy wr, World.cell? p.w ⟨b, z + i * 15 + 10, none⟩ = some (.bool xah) := fun p => HCELL.out p.w (HB.out.trans (p.hb.mono HB.out.size)) i _ HQxa.out 10 _ rfl
              have xaF11 : ∀ p : BelowBy wr, World.cell? p.w ⟨b, z + i * 15 + 11, none⟩ = some (.bool xaf) := fun p => HCELL.out p.w (HB.out.trans (p.hb.mono HB.out.size)) i _ HQxa.out 11 _ rfl
              have xaF12 : ∀ p : BelowBy wr, World.cell? p.w ⟨b, z + i * 15 + 12, none⟩ = some (.string xau) := fun p => HCELL.out p.w (HB.out.trans (p.hb.mono HB.out.size)) i _ HQxa.out 12 _ rfl
              have xaF13 : ∀ p : BelowBy wr, World.cell? p.w ⟨b, z + i * 15 + 13, none⟩ = some (.int .i64 xan) := fun p => HCELL.out p.w (HB.out.trans (p.hb.mono HB.out.size)) i _ HQxa.out 13 _ rfl
              have xaF14 : ∀ p : BelowBy wr, World.cell? p.w ⟨b, z + i * 15 + 14, none⟩ = some (.slice xaA xap.length xac) := fun p => HCELL.out p.w (HB.out.trans (p.hb.mono HB.out.size)) i _ HQxa.out 14 _ rfl
              have xcF0 : ∀ p : BelowBy wr, World.cell? p.w ⟨b, z + j * 15, none⟩ = some (.int .i64 xct) := fun p => HCELL.out p.w (HB.out.trans (p.hb.mono HB.out.size)) j _ HQxc.out 0 _ rfl
              have xcF1 : ∀ p : BelowBy wr, World.cell? p.w ⟨b, z + j * 15 + 1, none⟩ = some (.int .i64 xci) := fun p => HCELL.out p.w (HB.out.trans (p.hb.mono HB.out.size)) j _ HQxc.out 1 _ rfl
              have xcF2 : ∀ p : BelowBy wr, World.cell? p.w ⟨b, z + j * 15 + 2, none⟩ = some (.int .i64 xck) := fun p => HCELL.out p.w (HB.out.trans (p.hb.mono HB.out.size)) j _ HQxc.out 2 _ rfl
              have xcF3 : ∀ p : BelowBy wr, World.cell? p.w ⟨b, z + j * 15 + 3, none⟩ = some (.string xcy) := fun p => HCELL.out p.w (HB.out.trans (p.hb.mono HB.out.size)) j _ HQxc.out 3 _ rfl
              have xcF4 : ∀ p : BelowBy wr, World.cell? p.w ⟨b, z + j * 15 + 4, none⟩ = some (.string xcv) := fun p => HCELL.out p.w (HB.out.trans (p.hb.mono HB.out.size)) j _ HQxc.out 4 _ rfl
              have xcF5 : ∀ p : BelowBy wr, World.cell? p.w ⟨b, z + j * 15 + 5, none⟩ = some (.string xco) := fun p => HCELL.out p.w (HB.out.trans (p.hb.mono HB.out.size)) j _ HQxc.out 5 _ rfl
              have xcF6 : ∀ p : BelowBy wr, World.cell? p.w ⟨b, z + j * 15 + 6, none⟩ = some (.int .i64 xcb) := fun p => HCELL.out p.w (HB.out.trans (p.hb.mono HB.out.size)) j _ HQxc.out 6 _ rfl
              have xcF7 : ∀ p : BelowBy wr, World.cell? p.w ⟨b, z + j * 15 + 7, none⟩ = some (.int .i64 xce) := fun p => HCELL.out p.w (HB.out.trans (p.hb.mono HB.out.size)) j _ HQxc.out 7 _ rfl
              have xcF8 : ∀ p : BelowBy wr, World.cell? p.w ⟨b, z + j * 15 + 8, none⟩ = some (.bool xcd) := fun p => HCELL.out p.w (HB.out.trans (p.hb.mono HB.out.size)) j _ HQxc.out 8 _ rfl
              have xcF9 : ∀ p : BelowBy wr, World.cell? p.w ⟨b, z + j * 15 + 9, none⟩ = some (.int .i64 xcr) := fun p => HCELL.out p.w (HB.out.trans (p.hb.mono HB.out.size)) j _ HQxc.out 9 _ rfl
              have xcF10 : ∀ p : BelowBy wr, World.cell? p.w ⟨b, z + j * 15 + 10, none⟩ = some (.bool xch) := fun p => HCELL.out p.w (HB.out.trans (p.hb.mono HB.out.size)) j _ HQxc.out 10 _ rfl
              have xcF11 : ∀ p : BelowBy wr, World.cell? p.w ⟨b, z + j * 15 + 11, none⟩ = some (.bool xcf) := fun p => HCELL.out p.w (HB.out.trans (p.hb.mono HB.out.size)) j _ HQxc.out 11 _ rfl
              have xcF12 : ∀ p : BelowBy wr, World.cell? p.w ⟨b, z + j * 15 + 12, none⟩ = some (.string xcu) := fun p => HCELL.out p.w (HB.out.trans (p.hb.mono HB.out.size)) j _ HQxc.out 12 _ rfl
              have xcF13 : ∀ p : BelowBy wr, World.cell? p.w ⟨b, z + j * 15 + 13, none⟩ = some (.int .i64 xcn) := fun p => HCELL.out p.w (HB.out.trans (p.hb.mono HB.out.size)) j _ HQxc.out 13 _ rfl
              have xcF14 : ∀ p : BelowBy wr, World.cell? p.w ⟨b, z + j * 15 + 14, none⟩ = some (.slice xcA xcp.length xcc) := fun p => HCELL.out p.w (HB.out.trans (p.hb.mono HB.out.size)) j _ HQxc.out 14 _ rfl
              obtain ⟨bca, hbca⟩ : ∃ x, bef ⟨xct, xci, ⟨xck, xcy, xcv, xco⟩, xcb, xce, xcd, ⟨xcr, xch, xcf, xcu, xcn, xcp⟩⟩ ⟨xat, xai, ⟨xak, xay, xav, xao⟩, xab, xae, xad, ⟨xar, xah, xaf, xau, xan, xap⟩⟩ = x := ⟨_, rfl⟩
              have CCA := Lib.hid (fun p : BelowBy wr => calls_bel (p := p) (before_any p.w ⟨xct, xci, ⟨xck, xcy, xcv, xco⟩, xcb, xce, xcd, ⟨xcr, xch, xcf, xcu, xcn, xcp⟩⟩ ⟨xat, xai, ⟨xak, xay, xav, xao⟩, xab, xae, xad, ⟨xar, xah, xaf, xau, xan, xap⟩⟩ (.slice xcA xcp.length xcc) (.slice xaA xap.length xac)))
              unfold encC callC at CCA
              dsimp only at CCA
              rw [hbca] at CCA
              rw [hbca] at HRD
              clear hbca
              rcases HRD.out with d1 | ⟨d1, d2⟩ | ⟨d1, d2, d3⟩
              all_goals
                as_aux_lemma =>
                  first
                    | subst d3
                    | skip
                  have d1i : decide ((j : Int) < (i : Int)) = decide (j < i) := by rw [decide_eq_decide]; omega
                  rw [d1] at d1i
                  go_wp2_with fail
                  refine wp_region_bel (by kernel_rfl) (by kernel_rfl) ?_
                  repeat (first | go_big_quiet_step ((go_at_call 22; exact CCA.out _)) | quiet_step ((go_at_call 22; exact CCA.out _)))
                  refine wpQuiet_nil ?_
                  intro w5 hw5
                  obtain ⟨⟨w5', hb5⟩, hw5'⟩ := hw5
                  dsimp only at hw5'
                  subst hw5'
                  have HB6 := Lib.hid (HB.out.trans (hb5.mono HB.out.size))
                  clear hb5
                  clear xaF0 xaF1 xaF2 xaF3 xaF4 xaF5 xaF6 xaF7 xaF8 xaF9 xaF10 xaF11 xaF12 xaF13 xaF14 xcF0 xcF1 xcF2 xcF3 xcF4 xcF5 xcF6 xcF7 xcF8 xcF9 xcF10 xcF11 xcF12 xcF13 xcF14
                  go_wp2_with fail
                  go_loopw [5] (fun kv wr => ∃ k : Nat, k ≤ l.length ∧ kv = .int .i64 k ∧ Below w1.heap.size w1 wr) (fun kv _ => l.length - (intOf kv).toNat)
                  case atStart => exact ⟨0, Nat.zero_le _, rfl, HB6.out⟩
                  case round =>
                    obtain ⟨k, hk, rfl, hB⟩ := hrel
                    have HB := Lib.hid hB
                    clear hB
                    by_cases hkl : k < l.length
                    · as_aux_lemma =>
                        obtain ⟨⟨⟨xgt, xgi, ⟨xgk, xgy, xgv, xgo⟩, xgb, xge, xgd, ⟨xgr, xgh, xgf, xgu, xgn, xgp⟩⟩, xgw⟩, hqxg⟩ : ∃ q, l[k]? = some q := ⟨_, List.getElem?_eq_getElem (by assumption)⟩
                        have HAxg := Lib.hid (right_alone HRT.out _ (List.mem_of_getElem? hqxg))
                        dsimp only at HAxg
                        obtain ⟨xgA, xgc, hwxg⟩ := prs_shape (HC.out k _ hqxg).1
                        dsimp only at hwxg
                        subst hwxg
                        have HQxg := Lib.hid hqxg
                        clear hqxg
                        have HTR := Lib.hid (show bef ⟨xat, xai, ⟨xak, xay, xav, xao⟩, xab, xae, xad, ⟨xar, xah, xaf, xau, xan, xap⟩⟩ ⟨xct, xci, ⟨xck, xcy, xcv, xco⟩, xcb, xce, xcd, ⟨xcr, xch, xcf, xcu, xcn, xcp⟩⟩ = true → bef ⟨xct, xci, ⟨xck, xcy, xcv, xco⟩, xcb, xce, xcd, ⟨xcr, xch, xcf, xcu, xcn, xcp⟩⟩ ⟨xgt, xgi, ⟨xgk, xgy, xgv, xgo⟩, xgb, xge, xgd, ⟨xgr, xgh, xgf, xgu, xgn, xgp⟩⟩ = true → bef ⟨xat, xai, ⟨xak, xay, xav, xao⟩, xab, xae, xad, ⟨xar, xah, xaf, xau, xan, xap⟩⟩ ⟨xgt, xgi, ⟨xgk, xgy, xgv, xgo⟩, xgb, xge, xgd, ⟨xgr, xgh, xgf, xgu, xgn, xgp⟩⟩ = true from bef_trans HAxc.out)
                        have xaF0 : ∀ p : BelowBy wr, World.cell? p.w ⟨b, z + i * 15, none⟩ = some (.int .i64 xat) := fun p => HCELL.out p.w (HB.out.trans (p.hb.mono HB.out.size)) i _ HQxa.out 0 _ rfl
                        have xaF1 : ∀ p : BelowBy wr, World.cell? p.w ⟨b, z + i * 15 + 1, none⟩ = some (.int .i64 xai) := fun p => HCELL.out p.w (HB.out.trans (p.hb.mono HB.out.size)) i _ HQxa.out 1 _ rfl
                        have xaF2 : ∀ p : BelowBy wr, World.cell? p.w ⟨b, z + i * 15 + 2, none⟩ = some (.int .i64 xak) := fun p => HCELL.out p.w (HB.out.trans (p.hb.mono HB.out.size)) i _ HQxa.out 2 _ rfl
                        have xaF3 : ∀ p : BelowBy wr, World.cell? p.w ⟨b, z + i * 15 + 3, none⟩ = some (.string xay) := fun p => HCELL.out p.w (HB.out.trans (p.hb.mono HB.out.size)) i _ HQxa.out 3 _ rfl
                        have xaF4 : ∀ p : BelowBy wr, World.cell? p.w ⟨b, z + i * 15 + 4, none⟩ = some (.string xav) := fun p => HCELL.out p.w (HB.out.trans (p.hb.mono HB.out.size)) i _ HQxa.out 4 _ rfl
                        have xaF5 : ∀ p : BelowBy wr, World.cell? p.w ⟨b, z + i * 15 + 5, none⟩ = some (.string xao) := fun p => HCELL.out p.w (HB.out.trans (p.hb.mono HB.out.size)) i _ HQxa.out 5 _ rfl
                        have xaF6 : ∀ p : BelowBy wr, World.cell? p.w ⟨b, z + i * 15 + 6, none⟩ = some (.int .i64 xab) := fun p => HCELL.out p.w (HB.out.trans (p.hb.mono HB.out.size)) i _ HQxa.out 6 _ rfl
                        have xaF7 : ∀ p : BelowBy wr, World.cell? p.w ⟨b, z + i * 15 + 7, none⟩ = some (.int .i64 xae) := fun p => HCELL.out p.w (HB.out.trans (p.hb.mono HB.out.size)) i _ HQxa.out 7 _ rfl
                        have xaF8 : ∀ p : BelowBy wr, World.cell? p.w ⟨b, z + i * 15 + 8, none⟩ = some (.bool xad) := fun p => HCELL.out p.w (HB.out.trans (p.hb.mono HB.out.size)) i _ HQxa.out 8 _ rfl
                        have xaF9 : ∀ p : BelowBy wr, World.cell? p.w ⟨b, z + i * 15 + 9, none⟩ = some (.int .i64 xar) := fun p => HCELL.out p.w (HB.out.trans (p.hb.mono HB.out.size)) i _ HQxa.out 9 _ rfl
                        have xaF10 : ∀ p : BelowBy wr, World.cell? p.w ⟨b, z + i * 15 + 10, none⟩ = some (.bool xah) := fun p => HCELL.out p.w (HB.out.trans (p.hb.mono HB.out.size)) i _ HQxa.out 10 _ rfl
                        have xaF11 : ∀ p : BelowBy wr, World.cell? p.w ⟨b, z + i * 15 + 11, none⟩ = some (.bool xaf) := fun p => HCELL.out p.w (HB.out.trans (p.hb.mono HB.out.size)) i _ HQxa.out 11 _ rfl
                        have xaF12 : ∀ p : BelowBy wr, World.cell? p.w ⟨b, z + i * 15 + 12, none⟩ = some (.string xau) := fun p => HCELL.out p.w (HB.out.trans (p.hb.mono HB.out.size)) i _ HQxa.out 12 _ rfl
                        have xaF13 : ∀ p : BelowBy wr, World.cell? p.w ⟨b, z + i * 15 + 13, none⟩ = some (.int .i64 xan) := fun p => HCELL.out p.w (HB.out.trans (p.hb.mono HB.out.size)) i _ HQxa.out 13 _ rfl
                        have xaF14 : ∀ p : BelowBy wr, World.cell? p.w ⟨b, z + i * 15 + 14, none⟩ = some (.slice xaA xap.length xac) := fun p => HCELL.out p.w (HB.out.trans (p.hb.mono HB.out.size)) i _ HQxa.out 14 _ rfl
                        have xcF0 : ∀ p : BelowBy wr, World.cell? p.w ⟨b, z + j * 15, none⟩ = some (.int .i64 xct) := fun p => HCELL.out p.w (HB.out.trans (p.hb.mono HB.out.size)) j _ HQxc.out 0 _ rfl
                        have xcF1 : ∀ p : BelowBy wr, World.cell? p.w ⟨b, z + j * 15 + 1, none⟩ = some (.int .i64 xci) := fun p => HCELL.out p.w (HB.out.trans (p.hb.mono HB.out.size)) j _ HQxc.out 1 _ rfl
                        have xcF2 : ∀ p : BelowBy wr, World.cell? p.w ⟨b, z + j * 15 + 2, none⟩ = some (.int .i64 xck) := fun p => HCELL.out p.w (HB.out.trans (p.hb.mono HB.out.size)) j _ HQxc.out 2 _ rfl
                        have xcF3 : ∀ p : BelowBy wr, World.cell? p.w ⟨b, z + j * 15 + 3, none⟩ = some (.string xcy) := fun p => HCELL.out p.w (HB.out.trans (p.hb.mono HB.out.size)) j _ HQxc.out 3 _ rfl
                        have xcF4 : ∀ p : BelowBy wr, World.cell? p.w ⟨b, z + j * 15 + 4, none⟩ = some (.string xcv) := fun p => HCELL.out p.w (HB.out.trans (p.hb.mono HB.out.size)) j _ HQxc.out 4 _ rfl
                        have xcF5 : ∀ p : BelowBy wr, World.cell? p.w ⟨b, z + j * 15 + 5, none⟩ = some (.string xco) := fun p => HCELL.out p.w (HB.out.trans (p.hb.mono HB.out.size)) j _ HQxc.out 5 _ rfl
                        have xcF6 : ∀ p : BelowBy wr, World.cell? p.w ⟨b, z + j * 15 + 6, none⟩ = some (.int .i64 xcb) := fun p => HCELL.out p.w (HB.out.trans (p.hb.mono HB.out.size)) j _ HQxc.out 6 _ rfl
                        have xcF7 : ∀ p : BelowBy wr, World.cell? p.w ⟨b, z + j * 15 + 7, none⟩ = some (.int .i64 xce) := fun p => HCELL.out p.w (HB.out.trans (p.hb.mono HB.out.size)) j _ HQxc.out 7 _ rfl
                        have xcF8 : ∀ p : BelowBy wr, World.cell? p.w ⟨b, z + j * 15 + 8, none⟩ = some (.bool xcd) := fun p => HCELL.out p.w (HB.out.trans (p.hb.mono HB.out.size)) j _ HQxc.out 8 _ rfl
                        have xcF9 : ∀ p : BelowBy wr, World.cell? p.w ⟨b, z + j * 15 + 9, none⟩ = some (.int .i64 xcr) := fun p => HCELL.out p.w (HB.out.trans (p.hb.mono HB.out.size)) j _ HQxc.out 9 _ rfl
                        have xcF10 : ∀ p : BelowBy wr, World.cell? p.w ⟨b, z + j * 15 + 10, none⟩ = some (.bool xch) := fun p => HCELL.out p.w (HB.out.trans (p.hb.mono HB.out.size)) j _ HQxc.out 10 _ rfl
                        have xcF11 : ∀ p : BelowBy wr, World.cell? p.w ⟨b, z + j * 15 + 11, none⟩ = some (.bool xcf) := fun p => HCELL.out p.w (HB.out.trans (p.hb.mono HB.out.size)) j _ HQxc.out 11 _ rfl
                        have xcF12 : ∀ p : BelowBy wr, World.cell? p.w ⟨b, z + j * 15 + 12, none⟩ = some (.string xcu) := fun p => HCELL.out p.w (HB.out.trans (p.hb.mono HB.out.size)) j _ HQxc.out 12 _ rfl
                        have xcF13 : ∀ p : BelowBy wr, World.cell? p.w ⟨b, z + j * 15 + 13, none⟩ = some (.int .i64 xcn) := fun p => HCELL.out p.w (HB.out.trans (p.hb.mono HB.out.size)) j _ HQxc.out 13 _ rfl
                        have xcF14 : ∀ p : BelowBy wr, World.cell? p.w ⟨b, z + j * 15 + 14, none⟩ = some (.slice xcA xcp.length xcc) := fun p => HCELL.out p.w (HB.out.trans (p.hb.mono HB.out.size)) j _ HQxc.out 14 _ rfl
                        have xgF0 : ∀ p : BelowBy wr, World.cell? p.w ⟨b, z + k * 15, none⟩ = some (.int .i64 xgt) := fun p => HCELL.out p.w (HB.out.trans (p.hb.mono HB.out.size)) k _ HQxg.out 0 _ rfl
                        have xgF1 : ∀ p : BelowBy wr, World.cell? p.w ⟨b, z + k * 15 + 1, none⟩ = some (.int .i64 xgi) := fun p => HCELL.out p.w (HB.out.trans (p.hb.mono HB.out.size)) k _ HQxg.out 1 _ rfl
                        have xgF2 : ∀ p : BelowBy wr, World.cell? p.w ⟨b, z + k * 15 + 2, none⟩ = some (.int .i64 xgk) := fun p => HCELL.out p.w (HB.out.trans (p.hb.mono HB.out.size)) k _ HQxg.out 2 _ rfl
                        have xgF3 : ∀ p : BelowBy wr, World.cell? p.w ⟨b, z + k * 15 + 3, none⟩ = some (.string xgy) := fun p => HCELL.out p.w (HB.out.trans (p.hb.mono HB.out.size)) k _ HQxg.out 3 _ rfl
                        have xgF4 : ∀ p : BelowBy wr, World.cell? p.w ⟨b, z + k * 15 + 4, none⟩ = some (.string xgv) := fun p => HCELL.out p.w (HB.out.trans (p.hb.mono HB.out.size)) k _ HQxg.out 4 _ rfl
                        have xgF5 : ∀ p : BelowBy wr, World.cell? p.w ⟨b, z + k * 15 + 5, none⟩ = some (.string xgo) := fun p => HCELL.out p.w (HB.out.trans (p.hb.mono HB.out.size)) k _ HQxg.out 5 _ rfl
                        have xgF6 : ∀ p : BelowBy wr, World.cell? p.w ⟨b, z + k * 15 + 6, none⟩ = some (.int .i64 xgb) := fun p => HCELL.out p.w (HB.out.trans (p.hb.mono HB.out.size)) k _ HQxg.out 6 _ rfl
                        have xgF7 : ∀ p : BelowBy wr, World.cell? p.w ⟨b, z + k * 15 + 7, none⟩ = some (.int .i64 xge) := fun p => HCELL.out p.w (HB.out.trans (p.hb.mono HB.out.size)) k _ HQxg.out 7 _ rfl
                        have xgF8 : ∀ p : BelowBy wr, World.cell? p.w ⟨b, z + k * 15 + 8, none⟩ = some (.bool xgd) := fun p => HCELL.out p.w (HB.out.trans (p.hb.mono HB.out.size)) k _ HQxg.out 8 _ rfl
                        have xgF9 : ∀ p : BelowBy wr, World.cell? p.w ⟨b, z + k * 15 + 9, none⟩ = some (.int .i64 xgr) := fun p => HCELL.out p.w (HB.out.trans (p.hb.mono HB.out.size)) k _ HQxg.out 9 _ rfl
                        have xgF10 : ∀ p : BelowBy wr, World.cell? p.w ⟨b, z + k * 15 + 10, none⟩ = some (.bool xgh) := fun p => HCELL.out p.w (HB.out.trans (p.hb.mono HB.out.size)) k _ HQxg.out 10 _ rfl
                        have xgF11 : ∀ p : BelowBy wr, World.cell? p.w ⟨b, z + k * 15 + 11, none⟩ = some (.bool xgf) := fun p => HCELL.out p.w (HB.out.trans (p.hb.mono HB.out.size)) k _ HQxg.out 11 _ rfl
                        have xgF12 : ∀ p : BelowBy wr, World.cell? p.w ⟨b, z + k * 15 + 12, none⟩ = some (.string xgu) := fun p => HCELL.out p.w (HB.out.trans (p.hb.mono HB.out.size)) k _ HQxg.out 12 _ rfl
                        have xgF13 : ∀ p : BelowBy wr, World.cell? p.w ⟨b, z + k * 15 + 13, none⟩ = some (.int .i64 xgn) := fun p => HCELL.out p.w (HB.out.trans (p.hb.mono HB.out.size)) k _ HQxg.out 13 _ rfl
                        have xgF14 : ∀ p : BelowBy wr, World.cell? p.w ⟨b, z + k * 15 + 14, none⟩ = some (.slice xgA xgp.length xgc) := fun p => HCELL.out p.w (HB.out.trans (p.hb.mono HB.out.size)) k _ HQxg.out 14 _ rfl
                        obtain ⟨bac, hbac⟩ : ∃ x, bef ⟨xat, xai, ⟨xak, xay, xav, xao⟩, xab, xae, xad, ⟨xar, xah, xaf, xau, xan, xap⟩⟩ ⟨xct, xci, ⟨xck, xcy, xcv, xco⟩, xcb, xce, xcd, ⟨xcr, xch, xcf, xcu, xcn, xcp⟩⟩ = x := ⟨_, rfl⟩
                        have Cac := Lib.hid (fun p : BelowBy wr => calls_bel (p := p) (before_any p.w ⟨xat, xai, ⟨xak, xay, xav, xao⟩, xab, xae, xad, ⟨xar, xah, xaf, xau, xan, xap⟩⟩ ⟨xct, xci, ⟨xck, xcy, xcv, xco⟩, xcb, xce, xcd, ⟨xcr, xch, xcf, xcu, xcn, xcp⟩⟩ (.slice xaA xap.length xac) (.slice xcA xcp.length xcc)))
                        unfold encC callC at Cac
                        dsimp only at Cac
                        rw [hbac] at Cac
                        obtain ⟨bcg, hbcg⟩ : ∃ x, bef ⟨xct, xci, ⟨xck, xcy, xcv, xco⟩, xcb, xce, xcd, ⟨xcr, xch, xcf, xcu, xcn, xcp⟩⟩ ⟨xgt, xgi, ⟨xgk, xgy, xgv, xgo⟩, xgb, xge, xgd, ⟨xgr, xgh, xgf, xgu, xgn, xgp⟩⟩ = x := ⟨_, rfl⟩
                        have Ccg := Lib.hid (fun p : BelowBy wr => calls_bel (p := p) (before_any p.w ⟨xct, xci, ⟨xck, xcy, xcv, xco⟩, xcb, xce, xcd, ⟨xcr, xch, xcf, xcu, xcn, xcp⟩⟩ ⟨xgt, xgi, ⟨xgk, xgy, xgv, xgo⟩, xgb, xge, xgd, ⟨xgr, xgh, xgf, xgu, xgn, xgp⟩⟩ (.slice xcA xcp.length xcc) (.slice xgA xgp.length xgc)))
                        unfold encC callC at Ccg
                        dsimp only at Ccg
                        rw [hbcg] at Ccg
                        obtain ⟨bag, hbag⟩ : ∃ x, bef ⟨xat, xai, ⟨xak, xay, xav, xao⟩, xab, xae, xad, ⟨xar, xah, xaf, xau, xan, xap⟩⟩ ⟨xgt, xgi, ⟨xgk, xgy, xgv, xgo⟩, xgb, xge, xgd, ⟨xgr, xgh, xgf, xgu, xgn, xgp⟩⟩ = x := ⟨_, rfl⟩
                        have Cag := Lib.hid (fun p : BelowBy wr => calls_bel (p := p) (before_any p.w ⟨xat, xai, ⟨xak, xay, xav, xao⟩, xab, xae, xad, ⟨xar, xah, xaf, xau, xan, xap⟩⟩ ⟨xgt, xgi, ⟨xgk, xgy, xgv, xgo⟩, xgb, xge, xgd, ⟨xgr, xgh, xgf, xgu, xgn, xgp⟩⟩ (.slice xaA xap.length xac) (.slice xgA xgp.length xgc)))
                        unfold encC callC at Cag
                        dsimp only at Cag
                        rw [hbag] at Cag
                        rw [hbac, hbcg, hbag] at HTR
                        clear hbac hbcg hbag
                        have HT3 := Lib.hid (show bac = false ∨ (bac = true ∧ bcg = false) ∨ (bac = true ∧ bcg = true ∧ bag = true) from by
                          cases bac with
                          | false => exact Or.inl rfl
                          | true => cases bcg with
                            | false => exact Or.inr (Or.inl ⟨rfl, rfl⟩)
                            | true => exact Or.inr (Or.inr ⟨rfl, rfl, HTR.out rfl rfl⟩))
                        clear HTR
                        rcases HT3.out with g1 | ⟨g1, g2⟩ | ⟨g1, g2, g3⟩
                        all_goals
                          as_aux_lemma =>
                            first
                              | subst g3
                              | skip
                            first
                              | subst g2
                              | skip
                            subst g1
                            go_wp2_with fail
                            refine wp_region_bel (by kernel_rfl) (by kernel_rfl) ?_
                            repeat (first | go_big_quiet_step ((first | (go_at_call 22; with_reducible exact Cac.out _) | (go_at_call 22; with_reducible exact Ccg.out _) | (go_at_call 22; with_reducible exact Cag.out _))) | quiet_step ((first | (go_at_call 22; with_reducible exact Cac.out _) | (go_at_call 22; with_reducible exact Ccg.out _) | (go_at_call 22; with_reducible exact Cag.out _))))
                            refine wpQuiet_nil ?_
                            intro w5 hw5
                            obtain ⟨⟨w5', hb5⟩, hw5'⟩ := hw5
                            dsimp only at hw5'
                            subst hw5'
                            have HB7 := Lib.hid (HB.out.trans (hb5.mono HB.out.size))
                            clear hb5
                            clear xaF0 xaF1 xaF2 xaF3 xaF4 xaF5 xaF6 xaF7 xaF8 xaF9 xaF10 xaF11 xaF12 xaF13 xaF14 xcF0 xcF1 xcF2 xcF3 xcF4 xcF5 xcF6 xcF7 xcF8 xcF9 xcF10 xcF11 xcF12 xcF13 xcF14 xgF0 xgF1 xgF2 xgF3 xgF4 xgF5 xgF6 xgF7 xgF8 xgF9 xgF10 xgF11 xgF12 xgF13 xgF14
                            go_wp2_with fail
                            exact ⟨⟨k + 1, by omega, by go_num, HB7.out⟩, by show l.length - ((k : Int) + 1).toNat < l.length - (k : Int).toNat; omega⟩
                    · as_aux_lemma =>
                        go_wp2_with fail
                        exact ⟨⟨j + 1, by omega, by go_num, HB.out⟩, by show l.length - ((j : Int) + 1).toNat < l.length - (j : Int).toNat; omega⟩
          · as_aux_lemma =>
              go_wp2_with fail
              exact ⟨⟨i + 1, by omega, by go_num, HB.out⟩, by show l.length - ((i : Int) + 1).toNat < l.length - (i : Int).toNat; omega⟩
    · as_aux_lemma =>
        have HPR := Lib.hid (print_any wr l _ (by omega) (HCL.out.below HB.out) (fun q hq => alone_pok (right_alone HRT.out q hq)) (HV.out.below HB.out).vars)
        have hsz : (rest (l.map (·.1))).size ≤ 2000000 := by
          have h1 := print_short l (right_alone HRT.out)
          have h2 := HLT.out.2.2
          show (printM (l.map (·.1))).toArray.size ≤ _
          rw [List.size_toArray]
          omega
        have HPA := Lib.hid (fun W (hW : Below w1.heap.size w1 W) => parse_w (HV.out.below hW) (rest (l.map (·.1))) hsz)
        unfold ParsePost at HPA
        rw [right_back HRT.out] at HPA
        dsimp only at HPA
        unfold rest at HPA
        clear hsz
        go_wp2_with fail
        refine HPR.out.mono ?_
        rintro e w3 ⟨rfl, hb3⟩
        have HB3 := Lib.hid (HB.out.trans (hb3.mono HB.out.size))
        clear hb3
        go_wp2_with fail
        refine (HPA.out w3 HB3.out).mono ?_
        rintro e w4 ⟨ov, out, rfl, ho, hfst, hb4⟩
        have HB4 := Lib.hid (HB3.out.trans (hb4.mono HB3.out.size))
        have HS := Lib.hid (same38 w4 _ _ l out (HCL.out.below HB4.out) ho hfst.symm (by omega) (fun q hq => by have := HLT.out.2.1 q hq; unfold few at this; omega))
        obtain ⟨OA, OC, rfl⟩ := cls_shape ho
        clear ho hfst hb4
        go_wp2_with fail
        refine HS.out.mono ?_
        rintro e w5 ⟨rfl, hb5⟩
        have HB5 := Lib.hid (HB4.out.trans (hb5.mono HB4.out.size))
        clear hb5
        go_wp2_with fail
        refine (HAW.out w5 HB5.out).mono ?_
        rintro e w6 ⟨rfl, hb6⟩
        have HB6 := Lib.hid (HB5.out.trans (hb6.mono HB5.out.size))
        clear hb6
        go_wp2_with fail
        go_ret
        exact ⟨rfl, HB6.out⟩
end Go.Proofs.YtdibkhddhgaghaaDoor.Hs
