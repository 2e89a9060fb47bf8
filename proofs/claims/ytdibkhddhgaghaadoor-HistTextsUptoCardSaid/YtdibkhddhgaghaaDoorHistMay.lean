/- ref41.may: may a call be, alone? The reference's answer is the machine's. -/
import Derived.Test.YtdibkhddhgaghaaDoorHistBase
import Derived.Test.YtdibkhddhgaghaaDoorHistSame
import Derived.BigQuiet
namespace Go.Proofs.YtdibkhddhgaghaaDoor.Hs
open Go.RowKit Bq
set_option linter.unusedVariables false
set_option linter.unusedSimpArgs false
theorem may_no1 {c : CallL} (h : alone c = true) : 0 ≤ c.thread ∧ c.thread ≤ 63 ∧ 1 ≤ c.op.kind ∧ c.op.kind ≤ 11 ∧ wit c.index mt = true ∧ wit c.begin_ mt = true ∧ wit c.end_ mt = true ∧ wit c.reply.n mt = true ∧ 0 ≤ c.reply.err ∧ c.reply.err ≤ 99 ∧ c.reply.pairs.length ≤ 1000 := by
  unfold alone at h
  simp only [Bool.and_eq_true, decide_eq_true_eq] at h
  obtain ⟨⟨⟨⟨⟨⟨⟨⟨⟨h1, h2⟩, h3⟩, h4⟩, h5⟩, h6⟩, h7⟩, h8⟩, h9⟩, h10⟩ := h
  unfold wit at h1 h8
  simp only [Bool.and_eq_true, decide_eq_true_eq] at h1 h8
  exact ⟨h1.1, h1.2, h2.1, h2.2, h4, h5, h6, h7, h8.1, h8.2, h9⟩
theorem may_no2 {c : CallL} (h : alone c = true) : c.op.key.size ≤ 255 ∧ c.op.value.size ≤ 255 ∧ c.op.old.size ≤ 255 ∧ c.reply.value.size ≤ 255 ∧ ∀ p ∈ c.reply.pairs, p.1.size ≤ 255 ∧ p.2.size ≤ 255 := by
  unfold alone textsOk at h
  simp only [Bool.and_eq_true, decide_eq_true_eq, List.all_eq_true] at h
  obtain ⟨⟨⟨⟨⟨⟨⟨⟨⟨h1, h2⟩, h3⟩, h4⟩, h5⟩, h6⟩, h7⟩, h8⟩, h9⟩, h10⟩ := h
  exact ⟨h3.1.1.1.1, h3.1.1.1.2, h3.1.1.2, h3.1.2, h3.2⟩
set_option maxHeartbeats 4000000 in
theorem same06z (w : World) (v : Value) (l : List Pr) (h : Prs w v l) :
    Calls Tryd.prog 99 #[v, .slice none 0 0] w fun e w' => e = .returned (.bool (decide (l.length = 0))) ∧ w' = w := by
  obtain ⟨A, cap, rfl, _, _⟩ := h
  by_cases h0 : l.length = 0
  · rw [h0]
    go_enter Tryd.func99, Tryd.ntmps99
    go_wp2
    go_loopw [5] (fun i wr => i = .int .i64 0 ∧ wr = w) (fun _ _ => 0)
    case atStart => exact ⟨rfl, rfl⟩
    case round =>
      obtain ⟨rfl, rfl⟩ := hrel
      go_wp2
      go_ret
      exact ⟨rfl, rfl⟩
  · have hb1 : ((l.length : Int) != 0) = true := by simp only [bne_iff_ne, ne_eq]; omega
    have hb2 : (l.length != 0) = true := by simp only [bne_iff_ne, ne_eq]; omega
    have hb3 : ¬ (l.length : Int) = 0 := by omega
    go_enter Tryd.func99, Tryd.ntmps99
    go_wp2
    go_ret
    exact ⟨by rw [decide_eq_false h0]; rfl, rfl⟩
set_option maxHeartbeats 8000000 in
theorem same07z (w : World) (r : Rep) (pa : Value) (ha : Prs w pa r.pairs) :
    Calls Tryd.prog 61 #[encR r pa, .agg #[.int .i64 0, .bool false, .bool false, .string ⟨#[]⟩, .int .i64 0, .slice none 0 0]] w fun e w' => e = .returned (.bool (zeroR r)) ∧ Below w.heap.size w w' := by
  obtain ⟨ae, ah, ad, av, an, ap⟩ := r
  unfold encR
  dsimp only at ha ⊢
  have HA := Lib.hid ha
  have HV := Lib.hid (show av.size = 0 ↔ av.toList = [] from by
    rw [ByteArray.toList_eq]
    have := (show av.data.toList.length = av.size by simp)
    rw [← this]
    exact List.length_eq_zero_iff)
  clear ha
  go_enter Tryd.func61, Tryd.ntmps61
  go_wp2_with (go_at_call 99; refine (same06z _ _ _ (HA.out.below (((Below.refl _ _).alloc (Nat.le_refl _) _).alloc (by simp) _))).mono ?_; rintro e w' ⟨rfl, rfl⟩)
  all_goals
    go_ret
    refine ⟨?_, ((Below.refl _ _).alloc (Nat.le_refl _) _).alloc (by simp) _⟩
    unfold zeroR
    dsimp only
    simp only [HV.out]
    first
      | (simp [*]; done)
      | (simp_all; done)
      | (simp [*]; cases ap <;> simp; done)
set_option maxRecDepth 100000 in
set_option maxHeartbeats 16000000 in
theorem may_ref (w : World) (c : CallL) (pv : Value) (hp : Prs w pv c.reply.pairs) (hn : c.reply.pairs.length ≤ 100000000) :
    Calls Tryd.prog 63 #[encC c pv] w fun e w' => e = .returned (.bool (alone c)) ∧ Below w.heap.size w w' := by
  obtain ⟨ct, ci, ⟨ok, okey, oval, oold⟩, cb, ce, cd, ⟨re, rh, rd, rv, rn, rp⟩⟩ := c
  obtain ⟨A, cap, rfl, hcap, hpc⟩ := hp
  dsimp only at hcap hpc hn ⊢
  have HPC := Lib.hid hpc
  clear hpc
  have HA1 := Lib.hid (@may_no1 ⟨ct, ci, ⟨ok, okey, oval, oold⟩, cb, ce, cd, ⟨re, rh, rd, rv, rn, rp⟩⟩)
  have HA2 := Lib.hid (@may_no2 ⟨ct, ci, ⟨ok, okey, oval, oold⟩, cb, ce, cd, ⟨re, rh, rd, rv, rn, rp⟩⟩)
  obtain ⟨ac, hac⟩ : ∃ x, alone ⟨ct, ci, ⟨ok, okey, oval, oold⟩, cb, ce, cd, ⟨re, rh, rd, rv, rn, rp⟩⟩ = x := ⟨_, rfl⟩
  have HAC := Lib.hid hac
  rw [hac] at HA1 HA2 ⊢
  clear hac
  unfold encC callC
  dsimp only at HA1 HA2 ⊢
  go_enter Tryd.func63, Tryd.ntmps63
  go_wp2_with (first | (go_at_call 102; refine (far_ref _ _).mono ?_; rintro e w' ⟨rfl, rfl⟩) | (go_at_call 103; refine (long_ref _ _).mono ?_; rintro e w' ⟨rfl, rfl⟩))
  all_goals first
    | (go_ret
       refine ⟨?_, (Below.refl _ _).alloc (Nat.le_refl _) _⟩
       have hac : ac = false := by
         cases ac with
         | false => rfl
         | true =>
           exfalso
           obtain ⟨x1, x2, x3, x4, x5, x6, x7, x8, x9, x10, x11⟩ := HA1.out rfl
           obtain ⟨y1, y2, y3, y4, y5⟩ := HA2.out rfl
           first
             | omega
             | (rename_i hq; first | (rw [x5] at hq; cases hq; done) | (rw [x6] at hq; cases hq; done) | (rw [x7] at hq; cases hq; done) | (rw [x8] at hq; cases hq; done) | (rw [decide_eq_true y4] at hq; cases hq; done))
             | (simp_all; done)
       rw [hac]
       first | rfl | (simp; done))
    | skip
  rename_i h14 h13 h12 h11 h10 h9 h8 h7 h6 h5 h4 h3 h2 h1 h0 K0 a0
  have hv5 : rv.size ≤ 255 := by simpa using h0
  have HV := Lib.hid (show ac = ((rp.all fun p => decide (p.1.size ≤ 255) && decide (p.2.size ≤ 255)) && (if cd then decide (cb ≤ ce) else decide (ce = 0) && zeroR ⟨re, rh, rd, rv, rn, rp⟩)) from by
    rw [← HAC.out]
    unfold alone textsOk
    dsimp only
    have e1 : wit ct 63 = true := by unfold wit; simp; omega
    have e2 : wit re 99 = true := by unfold wit; simp; omega
    have e3 : decide (rp.length ≤ 1000) = true := by simp; omega
    have e4 : decide (1 ≤ ok) = true := by simp; omega
    have e5 : decide (ok ≤ 11) = true := by simp; omega
    rw [e1, e2, e3, e4, e5, h10, h9, h8, h7, decide_eq_true h3, decide_eq_true h2, decide_eq_true h1, decide_eq_true hv5]
    simp only [Bool.and_true, Bool.true_and])
  clear h14 h13 h12 h11 h10 h9 h8 h7 h6 h5 h4 h3 h2 h1 h0 hv5 HA1 HA2
  obtain ⟨W0, hW0⟩ : ∃ W, w.alloc (.cells #[.int .i64 ct, .int .i64 ci, .int .i64 ok, .string okey, .string oval, .string oold, .int .i64 cb, .int .i64 ce, .bool cd, .int .i64 re, .bool rh, .bool rd, .string rv, .int .i64 rn, .slice A rp.length cap] 50) = W := ⟨_, rfl⟩
  rw [hW0]
  have HB0 := Lib.hid (show Below w.heap.size w W0 from by rw [← hW0]; exact (Below.refl _ _).alloc (Nat.le_refl _) _)
  have cf : ∀ i v, (callC ⟨ct, ci, ⟨ok, okey, oval, oold⟩, cb, ce, cd, ⟨re, rh, rd, rv, rn, rp⟩⟩ (.slice A rp.length cap))[i]? = some v → W0.cell? ⟨w.heap.size, i, none⟩ = some v := fun i v hv => by subst hW0; exact (cell_of' (heap_alloc_new w _) i).trans hv
  have s0 : W0.cell? ⟨w.heap.size, 0, none⟩ = some (.int .i64 ct) := cf 0 _ rfl
  have s1 : W0.cell? ⟨w.heap.size, 1, none⟩ = some (.int .i64 ci) := cf 1 _ rfl
  have s2 : W0.cell? ⟨w.heap.size, 2, none⟩ = some (.int .i64 ok) := cf 2 _ rfl
  have s3 : W0.cell? ⟨w.heap.size, 3, none⟩ = some (.string okey) := cf 3 _ rfl
  have s4 : W0.cell? ⟨w.heap.size, 4, none⟩ = some (.string oval) := cf 4 _ rfl
  have s5 : W0.cell? ⟨w.heap.size, 5, none⟩ = some (.string oold) := cf 5 _ rfl
  have s6 : W0.cell? ⟨w.heap.size, 6, none⟩ = some (.int .i64 cb) := cf 6 _ rfl
  have s7 : W0.cell? ⟨w.heap.size, 7, none⟩ = some (.int .i64 ce) := cf 7 _ rfl
  have s8 : W0.cell? ⟨w.heap.size, 8, none⟩ = some (.bool cd) := cf 8 _ rfl
  have s9 : W0.cell? ⟨w.heap.size, 9, none⟩ = some (.int .i64 re) := cf 9 _ rfl
  have s10 : W0.cell? ⟨w.heap.size, 10, none⟩ = some (.bool rh) := cf 10 _ rfl
  have s11 : W0.cell? ⟨w.heap.size, 11, none⟩ = some (.bool rd) := cf 11 _ rfl
  have s12 : W0.cell? ⟨w.heap.size, 12, none⟩ = some (.string rv) := cf 12 _ rfl
  have s13 : W0.cell? ⟨w.heap.size, 13, none⟩ = some (.int .i64 rn) := cf 13 _ rfl
  have s14 : W0.cell? ⟨w.heap.size, 14, none⟩ = some (.slice A rp.length cap) := cf 14 _ rfl
  clear cf hW0
  go_loopw [3] (fun i wr => ∃ k : Nat, k ≤ rp.length ∧ i = .int .i64 k ∧ (∀ p ∈ rp.take k, p.1.size ≤ 255 ∧ p.2.size ≤ 255) ∧ wr = W0) (fun i _ => rp.length - (intOf i).toNat)
  case atStart => exact ⟨0, Nat.zero_le _, rfl, fun p hp => by simp at hp, rfl⟩
  case round =>
    obtain ⟨k, hk, rfl, hall, rfl⟩ := hrel
    have HALL := Lib.hid hall
    clear hall
    by_cases hlt : k < rp.length
    · obtain ⟨p, hp⟩ : ∃ p, rp[k]? = some p := ⟨_, List.getElem?_eq_getElem hlt⟩
      obtain ⟨b, o, rfl, hbl, c1, c2⟩ := HPC.out k p hp
      have d1 := (HB0.out.cell (p := ⟨b, o + k * 2, none⟩) hbl).trans c1
      have d2 := (HB0.out.cell (p := ⟨b, o + k * 2 + 1, none⟩) hbl).trans c2
      have HP := Lib.hid hp
      clear hp c1 c2
      go_wp2_with (go_at_call 103; refine (long_ref _ _).mono ?_; rintro e w' ⟨rfl, rfl⟩)
      all_goals first
        | (go_ret
           refine ⟨?_, HB0.out⟩
           have hx : (rp.all fun p => decide (p.1.size ≤ 255) && decide (p.2.size ≤ 255)) = false := by
             rw [List.all_eq_false]
             refine ⟨p, List.mem_of_getElem? HP.out, ?_⟩
             rename_i hq
             simp at hq
             simp
             omega
           have hac : ac = false := by rw [HV.out, hx, Bool.false_and]
           rw [hac]
           rfl)
        | (have hp2 : p.2.size ≤ 255 := by (rename_i hz; simpa using hz)
           refine ⟨⟨k + 1, by omega, by go_num, ?_, trivial⟩, by show rp.length - ((k : Int) + 1).toNat < rp.length - (k : Int).toNat; omega⟩
           intro q hq
           rw [List.take_add_one, HP.out] at hq
           rcases List.mem_append.1 hq with hq | hq
           · exact HALL.out q hq
           · simp at hq
             subst hq
             exact ⟨by assumption, hp2⟩)
    · have hke : k = rp.length := by omega
      have hall : (rp.all fun p => decide (p.1.size ≤ 255) && decide (p.2.size ≤ 255)) = true := by
        have h := HALL.out
        rw [hke, List.take_length] at h
        simp only [List.all_eq_true, Bool.and_eq_true, decide_eq_true_eq]
        exact h
      have HV2 := Lib.hid (show ac = (if cd then decide (cb ≤ ce) else decide (ce = 0) && zeroR ⟨re, rh, rd, rv, rn, rp⟩) from by rw [HV.out, hall, Bool.true_and])
      have b0 : decide (k < rp.length) = false := decide_eq_false hlt
      have HS := Lib.hid (fun W h => same07z W ⟨re, rh, rd, rv, rn, rp⟩ (.slice A rp.length cap) h)
      have HPR := Lib.hid (show Prs wr (.slice A rp.length cap) rp from Prs.below (show Prs w (.slice A rp.length cap) rp from ⟨A, cap, rfl, hcap, HPC.out⟩) HB0.out)
      unfold encR at HS
      dsimp only at HS
      clear hke hall hlt
      cases cd
      all_goals
        go_wp2_with (go_at_call 61; refine (HS.out _ HPR.out).mono ?_; rintro e w' ⟨rfl, hbz⟩)
        all_goals
          go_ret
          refine ⟨?_, by first | exact HB0.out | exact HB0.out.trans (hbz.mono HB0.out.size)⟩
          rw [HV2.out]
          first
            | rfl
            | (simp [*]; done)
            | (simp_all; done)
end Go.Proofs.YtdibkhddhgaghaaDoor.Hs
