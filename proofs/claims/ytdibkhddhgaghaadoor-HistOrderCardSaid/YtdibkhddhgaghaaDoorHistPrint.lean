/- hist.Print: the walk. -/
import Derived.Test.YtdibkhddhgaghaaDoorHistPrintP
import Derived.Test.YtdibkhddhgaghaaDoorRoundReg
namespace Go.Proofs.YtdibkhddhgaghaaDoor.Hs
open Go.RowKit Bq
set_option linter.unusedVariables false
set_option linter.unusedSimpArgs false
theorem own_fr2 {w w' : World} {base : Nat} {e : TypeId} {size n : Nat} {v : Value} {xs : List Value} (h : w.ownsRow base e size v n xs) (hb : Below w.heap.size w w') : w'.ownsRow base e size v n xs := own_fr h (S := fun _ => False) (Fr.of_below hb) (fun _ _ => id)
theorem own_pos {w : World} {base : Nat} {e : TypeId} {size n : Nat} {v : Value} {xs : List Value} (h : w.ownsRow base e size v n xs) (hn : 0 < n) : ∃ g cap, v = Value.slice (some ⟨g, 0, none⟩) n cap := by
  obtain ⟨_, ⟨_, e0⟩ | ⟨g, cap', cur, e, _⟩⟩ := h
  · omega
  · exact ⟨g, cap', e⟩
theorem cell_two_new (w : World) (x y : Value) (t : TypeId) : ∀ j u, [x, y][j]? = some u → (w.alloc (.cells #[x, y] t)).cell? ((⟨w.heap.size, 0, none⟩ : Addr).add j) = some u := fun j u h => World.news_of_block (cs := #[x, y]) (t := t) (fr := (0, 0)) (heap_alloc_new w _) j u h
set_option maxRecDepth 100000 in
set_option maxHeartbeats 16000000 in
theorem print_any (w : World) (l : List CV) (v : Value) (hl : l.length ≤ 100) (h : Cls w v l) (hP : ∀ q ∈ l, Pok q.1) (hV : Vars w) :
    Calls Tryd.prog 18 #[v] w fun e w' => e = .returned (.string ⟨(printM (l.map (·.1))).toArray⟩) ∧ Below w.heap.size w w' := by
  have HPK := Lib.hid hP
  have HD := Lib.hid (fun (n : Int) (h0 : -9223372036854775808 ≤ n) (h1 : n ≤ 9223372036854775807) (W : World) (h : Below w.heap.size w W) => show Calls Tryd.prog 47 #[.int .i64 n] W fun e w' => e = .returned (.string (ita n)) ∧ Below W.heap.size W w' from DgP.print_any n h0 h1 W (hV.below h).pow)
  have HX := Lib.hid (fun (s : ByteArray) (hs : s.size ≤ 1048576) (W : World) (h : Below w.heap.size w W) => show Calls Tryd.prog 55 #[.string s] W fun e w' => e = .returned (.string (hxp s)) ∧ Below W.heap.size W w' from Hxw.print_any s (by omega) W (hV.below h).tab)
  have HTL := Lib.hid (fun k => print_len ((l.map (·.1)).take k) (fun c hc => by obtain ⟨q, hq, rfl⟩ := List.mem_map.1 (List.mem_of_mem_take hc); exact hP q hq))
  obtain ⟨A, cap, rfl, hcap, hc0⟩ := h
  clear hP hV
  go_enter Tryd.func18, Tryd.ntmps18
  go_wp2_with fail
  go_loopw [12] (fun i wr => ∃ k : Nat, k ≤ l.length ∧ i = .int .i64 k ∧ IsB w.heap.size w.heap.size (printM ((l.map (·.1)).take k)) wr ∧ Below w.heap.size w wr) (fun i _ => l.length - (intOf i).toNat)
  case atStart => exact ⟨0, Nat.zero_le _, rfl, Lib.fresh_isBuilder _ _ w, (Below.refl _ _).alloc (Nat.le_refl _) _⟩
  case round =>
    obtain ⟨k, hk, rfl, hI, hB⟩ := hrel
    have HI := Lib.hid hI
    have HB := Lib.hid hB
    clear hI hB
    by_cases hlt : k < l.length
    · obtain ⟨q, hq⟩ : ∃ q, l[k]? = some q := ⟨_, List.getElem?_eq_getElem hlt⟩
      obtain ⟨hPp, b, z, rfl, hbl, hcell⟩ := hc0 k q hq
      have HSN := Lib.hid (printM_snoc (l := l.map (·.1)) (k := k) (c := q.1) (by rw [List.getElem?_map, hq]; rfl))
      have HCC := Lib.hid (show ∀ W, Below w.heap.size w W → ∀ i u, (callC q.1 q.2)[i]? = some u → W.cell? ⟨b, z + k * 15 + i, none⟩ = some u from fun W hW i u hu => (hW.cell (p := ⟨b, z + k * 15 + i, none⟩) hbl).trans (hcell i u hu))
      have HPR := Lib.hid hPp
      have HOK := Lib.hid (HPK.out q (List.mem_of_getElem? hq))
      obtain ⟨⟨ct, ci, ⟨ok, okey, oval, oold⟩, cb, ce, cd, ⟨re, rh, rd, rv, rn, rp⟩⟩, pv⟩ := q
      dsimp only at hPp HPR HOK HCC HSN
      obtain ⟨PA, pcap, rfl, hpc, hpp⟩ := hPp
      have HPP := Lib.hid hpp
      have HC0 := Lib.hid hc0
      obtain ⟨⟨⟨a1, b1⟩, ⟨a2, b2⟩, ⟨a3, b3⟩, ⟨a4, b4⟩, ⟨a5, b5⟩, ⟨a6, b6⟩, ⟨a7, b7⟩⟩, ⟨t1, t2, t3, t4⟩, few, _⟩ := HOK.out
      dsimp only at a1 b1 a2 b2 a3 b3 a4 b4 a5 b5 a6 b6 a7 b7 t1 t2 t3 t4 few
      have hrl0 : (-9223372036854775808 : Int) ≤ (rp.length : Int) := by omega
      have hrl1 : (rp.length : Int) ≤ 9223372036854775807 := by omega
      have s0 : wr.cell? ⟨b, z + k * 15, none⟩ = some (.int .i64 ct) := HCC.out wr HB.out 0 _ rfl
      have s1 : wr.cell? ⟨b, z + k * 15 + 1, none⟩ = some (.int .i64 ci) := HCC.out wr HB.out 1 _ rfl
      have s2 : wr.cell? ⟨b, z + k * 15 + 2, none⟩ = some (.int .i64 ok) := HCC.out wr HB.out 2 _ rfl
      have s3 : wr.cell? ⟨b, z + k * 15 + 3, none⟩ = some (.string okey) := HCC.out wr HB.out 3 _ rfl
      have s4 : wr.cell? ⟨b, z + k * 15 + 4, none⟩ = some (.string oval) := HCC.out wr HB.out 4 _ rfl
      have s5 : wr.cell? ⟨b, z + k * 15 + 5, none⟩ = some (.string oold) := HCC.out wr HB.out 5 _ rfl
      have s6 : wr.cell? ⟨b, z + k * 15 + 6, none⟩ = some (.int .i64 cb) := HCC.out wr HB.out 6 _ rfl
      have s7 : wr.cell? ⟨b, z + k * 15 + 7, none⟩ = some (.int .i64 ce) := HCC.out wr HB.out 7 _ rfl
      have s8 : wr.cell? ⟨b, z + k * 15 + 8, none⟩ = some (.bool cd) := HCC.out wr HB.out 8 _ rfl
      have s9 : wr.cell? ⟨b, z + k * 15 + 9, none⟩ = some (.int .i64 re) := HCC.out wr HB.out 9 _ rfl
      have s10 : wr.cell? ⟨b, z + k * 15 + 10, none⟩ = some (.bool rh) := HCC.out wr HB.out 10 _ rfl
      have s11 : wr.cell? ⟨b, z + k * 15 + 11, none⟩ = some (.bool rd) := HCC.out wr HB.out 11 _ rfl
      have s12 : wr.cell? ⟨b, z + k * 15 + 12, none⟩ = some (.string rv) := HCC.out wr HB.out 12 _ rfl
      have s13 : wr.cell? ⟨b, z + k * 15 + 13, none⟩ = some (.int .i64 rn) := HCC.out wr HB.out 13 _ rfl
      have s14 : wr.cell? ⟨b, z + k * 15 + 14, none⟩ = some (.slice PA rp.length pcap) := HCC.out wr HB.out 14 _ rfl
      clear hq hcell hc0 hpp
      go_wp2_with fail
      clear s0 s1 s2 s3 s4 s5 s6 s7 s8 s9 s10 s11 s12 s13 s14
      obtain ⟨W0, hW0⟩ : ∃ W0, W0 = (wr.alloc (.cells #[.int .i64 ct, .int .i64 ci, .int .i64 ok, .string okey, .string oval, .string oold, .int .i64 cb, .int .i64 ce, .bool cd, .int .i64 re, .bool rh, .bool rd, .string rv, .int .i64 rn, .slice PA rp.length pcap] 50)).alloc (.cells #[.int .i64 re, .bool rh, .bool rd, .string rv, .int .i64 rn, .slice PA rp.length pcap] 48) := ⟨_, rfl⟩
      rw [← hW0]
      have HW0 := Lib.hid (show wr.heap.size + 1 < W0.heap.size ∧ W0.heap[wr.heap.size]? = some (.cells #[.int .i64 ct, .int .i64 ci, .int .i64 ok, .string okey, .string oval, .string oold, .int .i64 cb, .int .i64 ce, .bool cd, .int .i64 re, .bool rh, .bool rd, .string rv, .int .i64 rn, .slice PA rp.length pcap] 50 (0, 0)) ∧ W0.heap[wr.heap.size + 1]? = some (.cells #[.int .i64 re, .bool rh, .bool rd, .string rv, .int .i64 rn, .slice PA rp.length pcap] 48 (0, 0)) ∧ Below wr.heap.size wr W0 from by
        rw [hW0]
        refine ⟨by simp, (Below.heap_alloc _ _ _ (by simp)).trans (heap_alloc_new wr _), ?_, ((Below.refl _ _).alloc (Nat.le_refl _) _).alloc (by simp) _⟩
        rw [show wr.heap.size + 1 = (wr.alloc (.cells #[.int .i64 ct, .int .i64 ci, .int .i64 ok, .string okey, .string oval, .string oold, .int .i64 cb, .int .i64 ce, .bool cd, .int .i64 re, .bool rh, .bool rd, .string rv, .int .i64 rn, .slice PA rp.length pcap] 50)).heap.size by simp]
        exact heap_alloc_new _ _)
      clear hW0
      have f0 : ∀ p : BelowBy W0, World.cell? p.w ⟨wr.heap.size, 0, none⟩ = some (.int .i64 ct) := fun p => p.cell (by have := HW0.out.1; omega) (cell_of' HW0.out.2.1 0)
      have f1 : ∀ p : BelowBy W0, World.cell? p.w ⟨wr.heap.size, 1, none⟩ = some (.int .i64 ci) := fun p => p.cell (by have := HW0.out.1; omega) (cell_of' HW0.out.2.1 1)
      have f2 : ∀ p : BelowBy W0, World.cell? p.w ⟨wr.heap.size, 2, none⟩ = some (.int .i64 ok) := fun p => p.cell (by have := HW0.out.1; omega) (cell_of' HW0.out.2.1 2)
      have f3 : ∀ p : BelowBy W0, World.cell? p.w ⟨wr.heap.size, 3, none⟩ = some (.string okey) := fun p => p.cell (by have := HW0.out.1; omega) (cell_of' HW0.out.2.1 3)
      have f4 : ∀ p : BelowBy W0, World.cell? p.w ⟨wr.heap.size, 4, none⟩ = some (.string oval) := fun p => p.cell (by have := HW0.out.1; omega) (cell_of' HW0.out.2.1 4)
      have f5 : ∀ p : BelowBy W0, World.cell? p.w ⟨wr.heap.size, 5, none⟩ = some (.string oold) := fun p => p.cell (by have := HW0.out.1; omega) (cell_of' HW0.out.2.1 5)
      have f6 : ∀ p : BelowBy W0, World.cell? p.w ⟨wr.heap.size, 6, none⟩ = some (.int .i64 cb) := fun p => p.cell (by have := HW0.out.1; omega) (cell_of' HW0.out.2.1 6)
      have f7 : ∀ p : BelowBy W0, World.cell? p.w ⟨wr.heap.size, 7, none⟩ = some (.int .i64 ce) := fun p => p.cell (by have := HW0.out.1; omega) (cell_of' HW0.out.2.1 7)
      have f8 : ∀ p : BelowBy W0, World.cell? p.w ⟨wr.heap.size, 8, none⟩ = some (.bool cd) := fun p => p.cell (by have := HW0.out.1; omega) (cell_of' HW0.out.2.1 8)
      have g0 : ∀ p : BelowBy W0, World.cell? p.w ⟨wr.heap.size + 1, 0, none⟩ = some (.int .i64 re) := fun p => p.cell HW0.out.1 (cell_of' HW0.out.2.2.1 0)
      have g1 : ∀ p : BelowBy W0, World.cell? p.w ⟨wr.heap.size + 1, 1, none⟩ = some (.bool rh) := fun p => p.cell HW0.out.1 (cell_of' HW0.out.2.2.1 1)
      have g2 : ∀ p : BelowBy W0, World.cell? p.w ⟨wr.heap.size + 1, 2, none⟩ = some (.bool rd) := fun p => p.cell HW0.out.1 (cell_of' HW0.out.2.2.1 2)
      have g3 : ∀ p : BelowBy W0, World.cell? p.w ⟨wr.heap.size + 1, 3, none⟩ = some (.string rv) := fun p => p.cell HW0.out.1 (cell_of' HW0.out.2.2.1 3)
      have g4 : ∀ p : BelowBy W0, World.cell? p.w ⟨wr.heap.size + 1, 4, none⟩ = some (.int .i64 rn) := fun p => p.cell HW0.out.1 (cell_of' HW0.out.2.2.1 4)
      have g5 : ∀ p : BelowBy W0, World.cell? p.w ⟨wr.heap.size + 1, 5, none⟩ = some (.slice PA rp.length pcap) := fun p => p.cell HW0.out.1 (cell_of' HW0.out.2.2.1 5)
      have HB0 := Lib.hid (show Below w.heap.size w W0 from HB.out.trans (HW0.out.2.2.2.mono HB.out.size))
      have CD := Lib.hid (fun (p : BelowBy W0) (n : Int) (h0 : -9223372036854775808 ≤ n) (h1 : n ≤ 9223372036854775807) => calls_bel (p := p) (HD.out n h0 h1 p.w (HB0.out.trans (p.hb.mono HB0.out.size))))
      have CX := Lib.hid (fun (p : BelowBy W0) (s : ByteArray) (hs : s.size ≤ 1048576) => calls_bel (p := p) (HX.out s hs p.w (HB0.out.trans (p.hb.mono HB0.out.size))))
      have CT := Lib.hid (fun (p : BelowBy W0) (b : Bool) => calls_bel_same (p := p) (bit_any b p.w))
      refine wp_region_bel_tail 50 (by kernel_rfl) (by kernel_rfl) ?_
      simp only [List.take_succ_cons, List.take_zero, List.drop_succ_cons, List.drop_zero]
      repeat (first | go_big_quiet_step ((first | (go_at_call 47; exact CD.out _ _ (by omega) (by omega)) | (go_at_call 55; exact CX.out _ _ (by omega)) | (go_at_call 56; exact CT.out _ _))) | quiet_step ((first | (go_at_call 47; exact CD.out _ _ (by omega) (by omega)) | (go_at_call 55; exact CX.out _ _ (by omega)) | (go_at_call 56; exact CT.out _ _))))
      refine wpQuiet_nil ?_
      intro w5 hw5
      obtain ⟨⟨w5', hb5⟩, hw5'⟩ := hw5
      dsimp only at hw5'
      subst hw5'
      have B5 := Lib.hid (HB0.out.trans (hb5.mono HB0.out.size))
      have hrl : wr.heap.size + 1 < w5.heap.size := Nat.lt_of_lt_of_le HW0.out.1 hb5.size
      have g5' : w5.cell? ⟨wr.heap.size + 1, 5, none⟩ = some (.slice PA rp.length pcap) := g5 ⟨w5, hb5⟩
      have HI5 := Lib.hid (isB_below HI.out (HW0.out.2.2.2.trans (hb5.mono (by have := HW0.out.1; omega))))
      clear hb5 f0 f1 f2 f3 f4 f5 f6 f7 f8 g0 g1 g2 g3 g4 g5
      go_wp2_with fail
      have HR0 := Lib.hid (show (w5.alloc (.cells #[.string (ita ct), .string (ita ci), .string (ita ok), .string (hxp okey), .string (hxp oval), .string (hxp oold), .string (ita cb), .string (ita ce), .string (bitB cd), .string (ita re), .string (bitB rh), .string (bitB rd), .string (hxp rv), .string (ita rn), .string (ita (rp.length : Int))] 9)).ownsRow w5.heap.size 9 1 (.slice (some ⟨w5.heap.size, 0, none⟩) 15 15) 15 (strs (wordsL ⟨ct, ci, ⟨ok, okey, oval, oold⟩, cb, ce, cd, ⟨re, rh, rd, rv, rn, rp⟩⟩ 0)) from World.ownsRow_lit (base := w5.heap.size) (e := 9) (size := 1) w5 #[.string (ita ct), .string (ita ci), .string (ita ok), .string (hxp okey), .string (hxp oval), .string (hxp oold), .string (ita cb), .string (ita ce), .string (bitB cd), .string (ita re), .string (bitB rh), .string (bitB rd), .string (hxp rv), .string (ita rn), .string (ita (rp.length : Int))] 15 (Nat.le_refl _) (by decide) rfl)
      have HB50 := Lib.hid (show Below w5.heap.size w5 (w5.alloc (.cells #[.string (ita ct), .string (ita ci), .string (ita ok), .string (hxp okey), .string (hxp oval), .string (hxp oold), .string (ita cb), .string (ita ce), .string (bitB cd), .string (ita re), .string (bitB rh), .string (bitB rd), .string (hxp rv), .string (ita rn), .string (ita (rp.length : Int))] 9)) from (Below.refl _ _).alloc (Nat.le_refl _) _)
      clear g5' hrl
      go_loopw [7, 72] (fun wv i w6 => ∃ t : Nat, t ≤ rp.length ∧ i = .int .i64 t ∧ w6.ownsRow w5.heap.size 9 1 wv (15 + 2 * t) (strs (wordsL ⟨ct, ci, ⟨ok, okey, oval, oold⟩, cb, ce, cd, ⟨re, rh, rd, rv, rn, rp⟩⟩ t)) ∧ Below w5.heap.size w5 w6) (fun _ i _ => rp.length - (intOf i).toNat)
      case atStart => exact ⟨0, Nat.zero_le _, rfl, HR0.out, HB50.out⟩
      case round =>
        obtain ⟨t, ht, rfl, hown, hB6⟩ := hrel
        have HO := Lib.hid hown
        have HB6 := Lib.hid hB6
        have HB6w := Lib.hid (B5.out.trans (hB6.mono B5.out.size))
        obtain ⟨g, cp, hwv⟩ : ∃ g cp, u7 = Value.slice (some ⟨g, 0, none⟩) (15 + 2 * t) cp := own_pos hown (by omega)
        subst hwv
        clear hown hB6
        by_cases htl : t < rp.length
        · obtain ⟨pr, hpr⟩ : ∃ p, rp[t]? = some p := ⟨_, List.getElem?_eq_getElem htl⟩
          obtain ⟨bp, op, rfl, hbp, hc1, hc2⟩ := HPP.out t pr hpr
          have HSP := Lib.hid (wordsL_snoc (c := ⟨ct, ci, ⟨ok, okey, oval, oold⟩, cb, ce, cd, ⟨re, rh, rd, rv, rn, rp⟩⟩) (k := t) (p := pr) hpr)
          have HPQ := Lib.hid (HOK.out.pairs pr (List.mem_of_getElem? hpr))
          obtain ⟨p1, p2⟩ := pr
          dsimp only at hc1 hc2 HSP HPQ
          have d1 : wr.cell? ⟨bp, op + t * 2, none⟩ = some (.string p1) := (HB6w.out.cell (p := ⟨bp, op + t * 2, none⟩) hbp).trans hc1
          have d2 : wr.cell? ⟨bp, op + t * 2 + 1, none⟩ = some (.string p2) := (HB6w.out.cell (p := ⟨bp, op + t * 2 + 1, none⟩) hbp).trans hc2
          clear hpr hc1 hc2
          obtain ⟨q1, q2⟩ := HPQ.out
          go_wp2_with fail
          clear d1 d2
          obtain ⟨W1, hW1⟩ : ∃ W1, W1 = wr.alloc (.cells #[.string p1, .string p2] 95) := ⟨_, rfl⟩
          rw [← hW1]
          have HW1 := Lib.hid (show wr.heap.size < W1.heap.size ∧ W1.heap[wr.heap.size]? = some (.cells #[.string p1, .string p2] 95 (0, 0)) ∧ Below wr.heap.size wr W1 from by
            rw [hW1]; exact ⟨by simp, heap_alloc_new wr _, (Below.refl _ _).alloc (Nat.le_refl _) _⟩)
          clear hW1
          have dT : ∀ w' : World, Below W1.heap.size W1 w' → (w'.cell? ⟨wr.heap.size, 0, none⟩ = some (.string p1) ∧ w'.cell? ⟨wr.heap.size, 1, none⟩ = some (.string p2)) := fun w' hb => ⟨(hb.cell (p := ⟨wr.heap.size, 0, none⟩) HW1.out.1).trans (cell_of' HW1.out.2.1 0), (hb.cell (p := ⟨wr.heap.size, 1, none⟩) HW1.out.1).trans (cell_of' HW1.out.2.1 1)⟩
          have HDT := Lib.hid dT
          have hT0 := dT W1.drew ((Below.refl _ _).drew)
          have HBW := Lib.hid (show Below w.heap.size w W1 from HB6w.out.trans (HW1.out.2.2.mono HB6w.out.size))
          clear dT
          refine region_till (fun w' => w'.cell? ⟨wr.heap.size, 0, none⟩ = some (.string p1) ∧ w'.cell? ⟨wr.heap.size, 1, none⟩ = some (.string p2)) (fun _ => True) 9 (by kernel_rfl) ?_
          refine Rr.take_T 0 (v := ?v0) rfl (by kernel_rfl) (by kernel_rfl) (by kernel_rfl) (by kernel_rfl) (fun _ _ _ h => h) hT0 (fun _ => trivial) (Or.inl ⟨by rfl, ?y0⟩) ?z0
          case y0 =>
            intro wz hz
            try dsimp only at hz
            try obtain ⟨hz1, hz2⟩ := hz
            go_simp
            try with_reducible rfl
          case z0 =>
          try simp only [Act.put, List.setIfInBounds_toArray, List.set_cons_zero, List.set_cons_succ]
          refine Rr.take_T 1 (v := ?v1) rfl (by kernel_rfl) (by kernel_rfl) (by kernel_rfl) (by kernel_rfl) (fun _ _ _ h => h) hT0 (fun _ => trivial) (Or.inl ⟨by rfl, ?y1⟩) ?z1
          case y1 =>
            intro wz hz
            try dsimp only at hz
            try obtain ⟨hz1, hz2⟩ := hz
            go_simp
            try with_reducible rfl
          case z1 =>
          try simp only [Act.put, List.setIfInBounds_toArray, List.set_cons_zero, List.set_cons_succ]
          refine Rr.take_T 2 (v := ?v2) rfl (by kernel_rfl) (by kernel_rfl) (by kernel_rfl) (by kernel_rfl) (fun _ _ _ h => h) hT0 (fun _ => trivial) (Or.inl ⟨by rfl, ?y2⟩) ?z2
          case y2 =>
            intro wz hz
            try dsimp only at hz
            try obtain ⟨hz1, hz2⟩ := hz
            go_simp
            try with_reducible rfl
          case z2 =>
          try simp only [Act.put, List.setIfInBounds_toArray, List.set_cons_zero, List.set_cons_succ]
          refine Rr.take_T 4 (v := ?v4) rfl (by kernel_rfl) (by kernel_rfl) (by kernel_rfl) (by kernel_rfl) (fun _ _ _ h => h) hT0 (fun _ => trivial) (Or.inl ⟨by rfl, ?y4⟩) ?z4
          case y4 =>
            intro wz hz
            try dsimp only at hz
            try obtain ⟨hz1, hz2⟩ := hz
            go_simp
            try with_reducible rfl
          case z4 =>
          try simp only [Act.put, List.setIfInBounds_toArray, List.set_cons_zero, List.set_cons_succ]
          refine Rr.take_T 5 (v := ?v5) rfl (by kernel_rfl) (by kernel_rfl) (by kernel_rfl) (by kernel_rfl) (fun _ _ _ h => h) hT0 (fun _ => trivial) (Or.inl ⟨by rfl, ?y5⟩) ?z5
          case y5 =>
            intro wz hz
            try dsimp only at hz
            try obtain ⟨hz1, hz2⟩ := hz
            go_simp
            try with_reducible rfl
          case z5 =>
          try simp only [Act.put, List.setIfInBounds_toArray, List.set_cons_zero, List.set_cons_succ]
          refine Rr.till_all [3] (by kernel_rfl) (by simp) (List.forall_mem_cons.2 ⟨fun K hK => ?_, fun i hi => by cases hi⟩)
          refine Rr.op_at _ rfl ?_
          go_simp
          refine (HX.out p1 q1 W1.drew (HBW.out.drew)).mono ?_
          rintro e w6 ⟨rfl, hb6⟩
          have HB6' := Lib.hid (show Below W1.heap.size W1 w6 from ((Below.refl _ _).drew).trans hb6)
          refine hK _ _ (HDT.out _ HB6'.out) (fun _ => trivial) ?_
          clear hK K hb6
          try simp only [Act.put, List.setIfInBounds_toArray, List.set_cons_zero, List.set_cons_succ]
          refine Rr.till_all [6] (by kernel_rfl) (by simp) (List.forall_mem_cons.2 ⟨fun K hK => ?_, fun i hi => by cases hi⟩)
          refine Rr.op_at _ rfl ?_
          go_simp
          refine (HX.out p2 q2 w6 (HBW.out.trans (HB6'.out.mono HBW.out.size))).mono ?_
          rintro e w7 ⟨rfl, hb7⟩
          have HBW7 := Lib.hid (show Below W1.heap.size W1 w7 from HB6'.out.trans (hb7.mono HB6'.out.size))
          refine hK _ _ (HDT.out _ HBW7.out) (fun _ => trivial) ?_
          clear hK K hb7
          try simp only [Act.put, List.setIfInBounds_toArray, List.set_cons_zero, List.set_cons_succ]
          refine Rr.till_all [7] (by kernel_rfl) (by simp) (List.forall_mem_cons.2 ⟨fun K hK => ?_, fun i hi => by cases hi⟩)
          refine Rr.op_at _ rfl ?_
          go_simp
          have HBW8 := Lib.hid (show Below W1.heap.size W1 (w7.alloc (.cells #[.string (hxp p1), .string (hxp p2)] 9)) from HBW7.out.alloc HBW7.out.size _)
          refine hK _ _ (HDT.out _ HBW8.out) (fun _ => trivial) ?_
          clear hK K
          try simp only [Act.put, List.setIfInBounds_toArray, List.set_cons_zero, List.set_cons_succ]
          refine Rr.till_all [8] (by kernel_rfl) (by simp) (List.forall_mem_cons.2 ⟨fun K hK => ?_, fun i hi => by cases hi⟩)
          refine Rr.op_at _ rfl ?_
          have HB7 := Lib.hid (show Below wr.heap.size wr w7 from HW1.out.2.2.trans (HBW7.out.mono (Nat.le_of_lt HW1.out.1)))
          have HO7 := Lib.hid ((own_fr2 HO.out HB7.out).alloc (.cells #[.string (hxp p1), .string (hxp p2)] 9))
          have HB7' := Lib.hid (show Below w5.heap.size w5 (w7.alloc (.cells #[.string (hxp p1), .string (hxp p2)] 9)) from (HB6.out.trans (HB7.out.mono HB6.out.size)).alloc (by have := HB6.out.size; have := HB7.out.size; omega) _)
          have hbs := HB7'.out.size
          obtain ⟨i0, hi, hz0, hz1, hz2⟩ := info_parts infoS
          refine step_append_lies _ (by rfl) (.tmp 76) (.tmp 83) 70 (by rfl) w5.heap.size 9 i0 (.string ⟨#[]⟩) 1 16 Tryd.underlying70 hi hz0 hz1 hz2 rfl (by omega) (.slice (some ⟨g, 0, none⟩) (15 + 2 * t) cp) (15 + 2 * t) (strs (wordsL ⟨ct, ci, ⟨ok, okey, oval, oold⟩, cb, ce, cd, ⟨re, rh, rd, rv, rn, rp⟩⟩ t)) (by rfl) HO7.out ⟨w7.heap.size, 0, none⟩ 2 2 [.string (hxp p1), .string (hxp p2)] (by rfl) (by rfl) (cell_two_new _ _ _ _) (by simp [Value.oneCell']) (by omega) (by unfold maxLen; omega) (by omega) hbs (w7.heap.size + 1) (by simp) ?_
          intro g8 cap8 w8 hown8 hgrow8 hat8 hlt8
          have HO8 := Lib.hid hown8
          have HG8 := Lib.hid hgrow8
          have hne8 : ∀ j, (Value.slice (some ⟨g, 0, none⟩) (15 + 2 * t) cp).ownBlock = some j → j ≠ wr.heap.size := fun j hj => by have h1 := (World.ownsRow.lt HO.out j hj).2; omega
          have hT8 : w8.cell? ⟨wr.heap.size, 0, none⟩ = some (.string p1) ∧ w8.cell? ⟨wr.heap.size, 1, none⟩ = some (.string p2) := by
            have h1 := hgrow8.block wr.heap.size (by have := HBW8.out.size; have := HW1.out.1; omega) (fun e => hne8 _ e.symm rfl)
            exact ⟨(World.cell?_of_block (a := ⟨wr.heap.size, 0, none⟩) h1).trans (HDT.out _ HBW8.out).1, (World.cell?_of_block (a := ⟨wr.heap.size, 1, none⟩) h1).trans (HDT.out _ HBW8.out).2⟩
          refine hK _ _ hT8 (fun _ => trivial) ?_
          clear hK K hown8 hgrow8 hat8 hlt8 hne8
          try simp only [Act.put, List.setIfInBounds_toArray, List.set_cons_zero, List.set_cons_succ]
          refine Rr.till_all [9] (by kernel_rfl) (by simp) (List.forall_mem_cons.2 ⟨fun K hK => ?_, fun i hi => by cases hi⟩)
          refine Rr.op_at _ rfl ?_
          go_simp
          refine hK _ _ hT8 (fun _ => trivial) ?_
          clear hK K hT8 hT0
          try simp only [Act.put, List.setIfInBounds_toArray, List.set_cons_zero, List.set_cons_succ]
          refine Rr.till_done (by kernel_rfl) ?_ _
          go_wp2_with fail
          go_roundw
          case rel =>
            refine ⟨t + 1, by omega, by go_num, ?_, HB7'.out.grown HG8.out hbs (fun j hj => (World.ownsRow.lt HO7.out j hj).1)⟩
            rw [HSP.out]
            have := HO8.out
            rw [show 15 + 2 * (t + 1) = 15 + 2 * t + 2 by omega]
            simpa [strs] using this
          case measure => simp [intOf]; omega
        · have htt : t = rp.length := by omega
          subst htt
          have hlen := wordsL_len ⟨ct, ci, ⟨ok, okey, oval, oold⟩, cb, ce, cd, ⟨re, rh, rd, rv, rn, rp⟩⟩ _ (Nat.le_refl _)
          have hall := wordsL_all ⟨ct, ci, ⟨ok, okey, oval, oold⟩, cb, ce, cd, ⟨re, rh, rd, rv, rn, rp⟩⟩
          dsimp only at hlen hall
          have HOw := Lib.hid HO.out
          obtain ⟨ws, hws⟩ : ∃ ws, ws = wordsL ⟨ct, ci, ⟨ok, okey, oval, oold⟩, cb, ce, cd, ⟨re, rh, rd, rv, rn, rp⟩⟩ rp.length := ⟨_, rfl⟩
          have HJ := Lib.hid (show Calls Tryd.prog 48 #[.slice (some ⟨g, 0, none⟩) (15 + 2 * rp.length) cp, .string ⟨#[32]⟩] wr fun e w' => e = .returned (.string ⟨(Lib.join (ws.map (·.data.toList)) [32]).toArray⟩) ∧ Below wr.heap.size wr w' from by
            have hrow := HO.out
            rw [← hws] at hrow
            rw [← hlen, ← hws]
            refine Tryd.strings_Join g 0 cp ws ⟨#[32]⟩ wr (fun j x hx => ?_) (World.ownsRow.lt hrow g rfl).2 (by rw [hws, hlen]; omega) ?_ ?_
            · have := World.ownsRow.cells hrow (g := g) rfl j (.string x) (by unfold strs; rw [List.getElem?_map, hx]; rfl)
              rw [Nat.zero_add]
              cases j <;> simpa [Addr.add] using this
            · obtain ⟨_, ⟨e, _⟩ | ⟨g', cap', cur, e, _, _, hc, _⟩⟩ := hrow
              · cases e
              · injection e with _ e1 e2
                rw [hws, hlen]; omega
            · rw [hws, hall]
              have := join_bound HOK.out
              dsimp only at this ⊢
              show (Lib.join _ [32]).length ≤ _
              omega)
          obtain ⟨J, hJ⟩ : ∃ J : ByteArray, J = ⟨(Lib.join (ws.map (·.data.toList)) [32]).toArray⟩ := ⟨_, rfl⟩
          rw [← hJ] at HJ
          have hjs : J.size ≤ 8500000000 := by
            have := join_bound HOK.out
            rw [hJ, hws, hall]
            show (Lib.join _ [32]).toArray.size ≤ _
            rw [List.size_toArray]
            exact this
          have HLP := Lib.hid (show lineP ⟨ct, ci, ⟨ok, okey, oval, oold⟩, cb, ce, cd, ⟨re, rh, rd, rv, rn, rp⟩⟩ = J.data.toList ++ [10] from by unfold lineP; rw [hJ, hws, hall])
          clear hJ hws hlen hall
          have f0 : ¬ 9223372036854775807 < J.size + 1 := by omega
          have f1 : ¬ (9223372036854775807 : Int) < (J.size : Int) + 1 := by omega
          go_wp2_with fail
          refine HJ.out.mono ?_
          rintro e w7 ⟨rfl, hb7⟩
          have HI7 := Lib.hid (isB_below (isB_below HI5.out HB6.out) hb7)
          have HB7 := Lib.hid (HB6w.out.trans (hb7.mono HB6w.out.size))
          clear hb7
          go_wp2_with fail
          have hsz : (Lib.byteCells (printM ((l.map (·.1)).take k))).length + (J ++ ⟨#[10]⟩ : ByteArray).size ≤ 140737488355328 := by
            have h1 := HTL.out k
            have h2 : ((l.map (·.1)).take k).length ≤ 100 := by rw [List.length_take, List.length_map]; omega
            have h3 := Nat.mul_le_mul_right 8500000001 h2
            have h4 : (⟨#[10]⟩ : ByteArray).size = 1 := rfl
            rw [Lib.byteCells_length, ByteArray.size_append, h4]
            omega
          refine (Sb.writeString w.heap.size w.heap.size _ _ w7 HI7.out hsz HB7.out.size).mono ?_
          rintro e w8 ⟨rfl, hI8, hb8, hf8⟩
          have HI8 := Lib.hid (show IsB w.heap.size w.heap.size (printM ((l.map (·.1)).take (k + 1))) w8 from Or.inr (by
            have h1 := hI8
            rw [Lib.strCells_eq, ← Lib.byteCells_append] at h1
            rw [HSN.out, HLP.out]
            simpa using h1))
          have HB8 := Lib.hid (HB7.out.trans hb8)
          clear hI8 hb8 hf8 hsz
          go_wp2_with fail
          exact ⟨⟨k + 1, by omega, by go_num, HI8.out, HB8.out⟩, by show l.length - ((k : Int) + 1).toNat < l.length - (k : Int).toNat; omega⟩
    · have hkk : k = l.length := by omega
      have hI := HI.out
      rw [hkk, List.take_of_length_le (by simp)] at hI
      have CS := Lib.hid (Tryd.Builder_String_any w.heap.size w.heap.size (printM (l.map (·.1))) wr hI HB.out.size)
      clear hI hkk
      go_wp2_with fail
      refine CS.out.mono ?_
      rintro e w5 ⟨rfl, hb5⟩
      have B5 := Lib.hid (HB.out.trans hb5)
      clear hb5
      go_wp2_with fail
      go_ret
      exact ⟨rfl, B5.out⟩
end Go.Proofs.YtdibkhddhgaghaaDoor.Hs
