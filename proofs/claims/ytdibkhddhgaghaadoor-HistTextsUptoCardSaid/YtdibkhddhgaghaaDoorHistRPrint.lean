/- ref41.Print: the walk. -/
import Derived.Test.YtdibkhddhgaghaaDoorHistBack
import Derived.Test.YtdibkhddhgaghaaDoorHistPrint
import Derived.Test.YtdibkhddhgaghaaDoorRTail
import Derived.Test.YtdibkhddhgaghaaDoorHexaRef
import Derived.Outline
namespace Go.Proofs.YtdibkhddhgaghaaDoor.Hs
open Go.RowKit Bq
set_option linter.unusedVariables false
set_option linter.unusedSimpArgs false
theorem bit_ref (b : Bool) (w : World) : Calls Tryd.prog 60 #[.bool b] w fun e w' => e = .returned (.string (bitB b)) ∧ w' = w := by
  cases b <;> (go_enter Tryd.func60, Tryd.ntmps60; go_wp2_with fail; go_ret; exact ⟨rfl, rfl⟩)
theorem jn_snoc (b : UInt8) (q : List UInt8) : ∀ {ps : List (List UInt8)}, ps ≠ [] → Tx.jn b (ps ++ [q]) = Tx.jn b ps ++ b :: q
  | [], h => absurd rfl h
  | [p], _ => rfl
  | p :: p' :: r, _ => by
    show p ++ b :: Tx.jn b ((p' :: r) ++ [q]) = (p ++ b :: Tx.jn b (p' :: r)) ++ b :: q
    rw [jn_snoc b q (ps := p' :: r) (by simp)]
    simp
/-- A line up to its k-th pair. -/
def lineK (c : CallL) (k : Nat) : List UInt8 := Tx.jn 32 ((wordsL c k).map (·.data.toList))
theorem lineK_snoc {c : CallL} {k : Nat} {p : Pr} (h : c.reply.pairs[k]? = some p) : lineK c (k + 1) = lineK c k ++ 32 :: (hxp p.1).data.toList ++ 32 :: (hxp p.2).data.toList := by
  unfold lineK
  rw [wordsL_snoc h, List.map_append, show [hxp p.1, hxp p.2].map (fun x : ByteArray => x.data.toList) = [(hxp p.1).data.toList] ++ [(hxp p.2).data.toList] from rfl, ← List.append_assoc, jn_snoc _ _ (by simp), jn_snoc _ _ (by simp [wordsL, word15])]
theorem lineK_all (c : CallL) : lineK c c.reply.pairs.length = lineJ c := by unfold lineK; rw [wordsL_all, jn_words]
/-- What is printed ahead of a call's k-th pair. -/
def ahead (l : List CallL) (c : CallL) (k : Nat) : ByteArray := ⟨(printM l ++ lineK c k).toArray⟩
theorem lineK_bound {c : CallL} (h : Pok c) (k : Nat) : (lineK c k).length ≤ 8500000000 := by
  unfold lineK
  have h1 := jn_len 2097153 ((wordsL c k).map (·.data.toList)) (fun p hp => by
    obtain ⟨t, ht, rfl⟩ := List.mem_map.1 hp
    have hm : t ∈ word15 c ++ wordsP c.reply.pairs := by
      unfold wordsL at ht
      rcases List.mem_append.1 ht with ht | ht
      · exact List.mem_append_left _ ht
      · refine List.mem_append_right _ ?_
        unfold wordsP at ht ⊢
        obtain ⟨q, hq, ht⟩ := List.mem_flatMap.1 ht
        exact List.mem_flatMap.2 ⟨q, List.mem_of_mem_take hq, ht⟩
    have := words_bound h t hm
    rw [DgW.size_list]; exact this)
  have h2 : ((wordsL c k).map (·.data.toList)).length ≤ 4015 := by
    have h3 : (wordsL c k).length ≤ 15 + 2 * c.reply.pairs.length := by
      unfold wordsL
      rw [List.length_append, wordsP_len, List.length_take]
      have : (word15 c).length = 15 := rfl
      omega
    have h4 := h.few
    rw [List.length_map]; omega
  have h3 := Nat.mul_le_mul_right 2097154 h2
  omega
set_option maxRecDepth 100000 in
set_option maxHeartbeats 16000000 in
theorem rprint_any (w : World) (l : List CV) (v : Value) (hl : l.length ≤ 100) (h : Cls w v l) (hP : ∀ q ∈ l, Pok q.1) :
    Calls Tryd.prog 19 #[v] w fun e w' => e = .returned (.string (rest (l.map (·.1)))) ∧ Below w.heap.size w w' := by
  have HPK := Lib.hid hP
  have HTL := Lib.hid (fun k => print_len ((l.map (·.1)).take k) (fun c hc => by obtain ⟨q, hq, rfl⟩ := List.mem_map.1 (List.mem_of_mem_take hc); exact hP q hq))
  obtain ⟨A, cap, rfl, hcap, hc0⟩ := h
  clear hP
  go_enter Tryd.func19, Tryd.ntmps19
  go_wp2_with fail
  go_loopw [3, 4] (fun sv i wr => ∃ k : Nat, k ≤ l.length ∧ i = .int .i64 k ∧ sv = .string (rest ((l.map (·.1)).take k)) ∧ Below w.heap.size w wr) (fun _ i _ => l.length - (intOf i).toNat)
  case atStart => exact ⟨0, Nat.zero_le _, rfl, rfl, Below.refl _ _⟩
  case round =>
    obtain ⟨k, hk, rfl, rfl, hB⟩ := hrel
    have HB := Lib.hid hB
    clear hB
    have hS0 : (rest ((l.map (·.1)).take k)).size ≤ 850000000100 := by
      have h1 := HTL.out k
      have h2 : ((l.map (·.1)).take k).length ≤ 100 := by rw [List.length_take, List.length_map]; omega
      have h3 := Nat.mul_le_mul_right 8500000001 h2
      show (printM ((l.map (·.1)).take k)).toArray.size ≤ _
      rw [List.size_toArray]; omega
    obtain ⟨S0, hS⟩ : ∃ x, x = rest ((l.map (·.1)).take k) := ⟨_, rfl⟩
    rw [← hS] at hS0 ⊢
    have HS := Lib.hid hS
    clear hS
    by_cases hlt : k < l.length
    · obtain ⟨q, hq⟩ : ∃ q, l[k]? = some q := ⟨_, List.getElem?_eq_getElem hlt⟩
      obtain ⟨hPp, b, z, rfl, hbl, hcell⟩ := hc0 k q hq
      have HSN := Lib.hid (printM_snoc (l := l.map (·.1)) (k := k) (c := q.1) (by rw [List.getElem?_map, hq]; rfl))
      have HCC := Lib.hid (show ∀ W, Below w.heap.size w W → ∀ i u, (callC q.1 q.2)[i]? = some u → W.cell? ⟨b, z + k * 15 + i, none⟩ = some u from fun W hW i u hu => (hW.cell (p := ⟨b, z + k * 15 + i, none⟩) hbl).trans (hcell i u hu))
      have HPR := Lib.hid hPp
      have HOK := Lib.hid (HPK.out q (List.mem_of_getElem? hq))
      obtain ⟨⟨ct, ci, ⟨ok, okey, oval, oold⟩, cb, ce, cd, ⟨re, rh, rd, rv, rn, rp⟩⟩, pv⟩ := q
      dsimp only at hPp HPR HOK HCC HSN
      obtain ⟨PA, pcap, rfl, hpc, hpp⟩ := hPp
      have HPP := Lib.hid hpp
      have HC0 := Lib.hid hc0
      obtain ⟨⟨⟨a1, b1⟩, ⟨a2, b2⟩, ⟨a3, b3⟩, ⟨a4, b4⟩, ⟨a5, b5⟩, ⟨a6, b6⟩, ⟨a7, b7⟩⟩, ⟨t1, t2, t3, t4⟩, few, _⟩ := HOK.out
      dsimp only at a1 b1 a2 b2 a3 b3 a4 b4 a5 b5 a6 b6 a7 b7 t1 t2 t3 t4 few
      have s0 : wr.cell? ⟨b, z + k * 15, none⟩ = some (.int .i64 ct) := HCC.out wr HB.out 0 _ rfl
      have s1 : wr.cell? ⟨b, z + k * 15 + 1, none⟩ = some (.int .i64 ci) := HCC.out wr HB.out 1 _ rfl
      have s2 : wr.cell? ⟨b, z + k * 15 + 2, none⟩ = some (.int .i64 ok) := HCC.out wr HB.out 2 _ rfl
      have s3 : wr.cell? ⟨b, z + k * 15 + 3, none⟩ = some (.string okey) := HCC.out wr HB.out 3 _ rfl
      have s4 : wr.cell? ⟨b, z + k * 15 + 4, none⟩ = some (.string oval) := HCC.out wr HB.out 4 _ rfl
      have s5 : wr.cell? ⟨b, z + k * 15 + 5, none⟩ = some (.string oold) := HCC.out wr HB.out 5 _ rfl
      have s6 : wr.cell? ⟨b, z + k * 15 + 6, none⟩ = some (.int .i64 cb) := HCC.out wr HB.out 6 _ rfl
      have s7 : wr.cell? ⟨b, z + k * 15 + 7, none⟩ = some (.int .i64 ce) := HCC.out wr HB.out 7 _ rfl
      have s8 : wr.cell? ⟨b, z + k * 15 + 8, none⟩ = some (.bool cd) := HCC.out wr HB.out 8 _ rfl
      have s9 : wr.cell? ⟨b, z + k * 15 + 9, none⟩ = some (.int .i64 re) := HCC.out wr HB.out 9 _ rfl
      have s10 : wr.cell? ⟨b, z + k * 15 + 10, none⟩ = some (.bool rh) := HCC.out wr HB.out 10 _ rfl
      have s11 : wr.cell? ⟨b, z + k * 15 + 11, none⟩ = some (.bool rd) := HCC.out wr HB.out 11 _ rfl
      have s12 : wr.cell? ⟨b, z + k * 15 + 12, none⟩ = some (.string rv) := HCC.out wr HB.out 12 _ rfl
      have s13 : wr.cell? ⟨b, z + k * 15 + 13, none⟩ = some (.int .i64 rn) := HCC.out wr HB.out 13 _ rfl
      have s14 : wr.cell? ⟨b, z + k * 15 + 14, none⟩ = some (.slice PA rp.length pcap) := HCC.out wr HB.out 14 _ rfl
      clear hq hcell hc0 hpp
      go_wp2_with fail
      clear s0 s1 s2 s3 s4 s5 s6 s7 s8 s9 s10 s11 s12 s13 s14
      obtain ⟨W0, hW0⟩ : ∃ W0, W0 = (wr.alloc (.cells #[.int .i64 ct, .int .i64 ci, .int .i64 ok, .string okey, .string oval, .string oold, .int .i64 cb, .int .i64 ce, .bool cd, .int .i64 re, .bool rh, .bool rd, .string rv, .int .i64 rn, .slice PA rp.length pcap] 50)).alloc (.cells #[.int .i64 re, .bool rh, .bool rd, .string rv, .int .i64 rn, .slice PA rp.length pcap] 48) := ⟨_, rfl⟩
      rw [← hW0]
      have HW0 := Lib.hid (show wr.heap.size + 1 < W0.heap.size ∧ W0.heap[wr.heap.size]? = some (.cells #[.int .i64 ct, .int .i64 ci, .int .i64 ok, .string okey, .string oval, .string oold, .int .i64 cb, .int .i64 ce, .bool cd, .int .i64 re, .bool rh, .bool rd, .string rv, .int .i64 rn, .slice PA rp.length pcap] 50 (0, 0)) ∧ W0.heap[wr.heap.size + 1]? = some (.cells #[.int .i64 re, .bool rh, .bool rd, .string rv, .int .i64 rn, .slice PA rp.length pcap] 48 (0, 0)) ∧ Below wr.heap.size wr W0 from by
        rw [hW0]
        refine ⟨by simp, (Below.heap_alloc _ _ _ (by simp)).trans (heap_alloc_new wr _), ?_, ((Below.refl _ _).alloc (Nat.le_refl _) _).alloc (by simp) _⟩
        rw [show wr.heap.size + 1 = (wr.alloc (.cells #[.int .i64 ct, .int .i64 ci, .int .i64 ok, .string okey, .string oval, .string oold, .int .i64 cb, .int .i64 ce, .bool cd, .int .i64 re, .bool rh, .bool rd, .string rv, .int .i64 rn, .slice PA rp.length pcap] 50)).heap.size by simp]
        exact heap_alloc_new _ _)
      clear hW0
      have hrl0 : (-9223372036854775808 : Int) ≤ (rp.length : Int) := by omega
      have hrl1 : (rp.length : Int) ≤ 9223372036854775807 := by omega
      obtain ⟨d0, hd0⟩ : ∃ x, x = ita ct := ⟨_, rfl⟩
      have C0 := Lib.hid (fun (W : World) => show Calls Tryd.prog 51 #[.int .i64 ct] W fun e w' => e = .returned (.string d0) ∧ Below W.heap.size W w' from by rw [hd0]; exact DgT.print_any ct a1 b1 W)
      have z0 : d0.size ≤ 100 := by rw [hd0]; exact itoa_len _ ⟨a1, b1⟩
      have E0 := Lib.hid hd0
      clear hd0
      obtain ⟨d1, hd1⟩ : ∃ x, x = ita ci := ⟨_, rfl⟩
      have C1 := Lib.hid (fun (W : World) => show Calls Tryd.prog 51 #[.int .i64 ci] W fun e w' => e = .returned (.string d1) ∧ Below W.heap.size W w' from by rw [hd1]; exact DgT.print_any ci a2 b2 W)
      have z1 : d1.size ≤ 100 := by rw [hd1]; exact itoa_len _ ⟨a2, b2⟩
      have E1 := Lib.hid hd1
      clear hd1
      obtain ⟨d2, hd2⟩ : ∃ x, x = ita ok := ⟨_, rfl⟩
      have C2 := Lib.hid (fun (W : World) => show Calls Tryd.prog 51 #[.int .i64 ok] W fun e w' => e = .returned (.string d2) ∧ Below W.heap.size W w' from by rw [hd2]; exact DgT.print_any ok a3 b3 W)
      have z2 : d2.size ≤ 100 := by rw [hd2]; exact itoa_len _ ⟨a3, b3⟩
      have E2 := Lib.hid hd2
      clear hd2
      obtain ⟨d3, hd3⟩ : ∃ x, x = hxp okey := ⟨_, rfl⟩
      have C3 := Lib.hid (fun (W : World) => show Calls Tryd.prog 59 #[.string okey] W fun e w' => e = .returned (.string d3) ∧ Below W.heap.size W w' from by rw [hd3]; exact HxRef.print_any okey (by omega) W)
      have z3 : d3.size ≤ 2097153 := by rw [hd3]; have := hxp_len okey; omega
      have E3 := Lib.hid hd3
      clear hd3
      obtain ⟨d4, hd4⟩ : ∃ x, x = hxp oval := ⟨_, rfl⟩
      have C4 := Lib.hid (fun (W : World) => show Calls Tryd.prog 59 #[.string oval] W fun e w' => e = .returned (.string d4) ∧ Below W.heap.size W w' from by rw [hd4]; exact HxRef.print_any oval (by omega) W)
      have z4 : d4.size ≤ 2097153 := by rw [hd4]; have := hxp_len oval; omega
      have E4 := Lib.hid hd4
      clear hd4
      obtain ⟨d5, hd5⟩ : ∃ x, x = hxp oold := ⟨_, rfl⟩
      have C5 := Lib.hid (fun (W : World) => show Calls Tryd.prog 59 #[.string oold] W fun e w' => e = .returned (.string d5) ∧ Below W.heap.size W w' from by rw [hd5]; exact HxRef.print_any oold (by omega) W)
      have z5 : d5.size ≤ 2097153 := by rw [hd5]; have := hxp_len oold; omega
      have E5 := Lib.hid hd5
      clear hd5
      obtain ⟨d6, hd6⟩ : ∃ x, x = ita cb := ⟨_, rfl⟩
      have C6 := Lib.hid (fun (W : World) => show Calls Tryd.prog 51 #[.int .i64 cb] W fun e w' => e = .returned (.string d6) ∧ Below W.heap.size W w' from by rw [hd6]; exact DgT.print_any cb a4 b4 W)
      have z6 : d6.size ≤ 100 := by rw [hd6]; exact itoa_len _ ⟨a4, b4⟩
      have E6 := Lib.hid hd6
      clear hd6
      obtain ⟨d7, hd7⟩ : ∃ x, x = ita ce := ⟨_, rfl⟩
      have C7 := Lib.hid (fun (W : World) => show Calls Tryd.prog 51 #[.int .i64 ce] W fun e w' => e = .returned (.string d7) ∧ Below W.heap.size W w' from by rw [hd7]; exact DgT.print_any ce a5 b5 W)
      have z7 : d7.size ≤ 100 := by rw [hd7]; exact itoa_len _ ⟨a5, b5⟩
      have E7 := Lib.hid hd7
      clear hd7
      obtain ⟨d8, hd8⟩ : ∃ x, x = bitB cd := ⟨_, rfl⟩
      have C8 := Lib.hid (fun (W : World) => show Calls Tryd.prog 60 #[.bool cd] W fun e w' => e = .returned (.string d8) ∧ w' = W from by rw [hd8]; exact bit_ref cd W)
      have z8 : d8.size ≤ 100 := by rw [hd8]; exact bit_len cd
      have E8 := Lib.hid hd8
      clear hd8
      obtain ⟨d9, hd9⟩ : ∃ x, x = ita re := ⟨_, rfl⟩
      have C9 := Lib.hid (fun (W : World) => show Calls Tryd.prog 51 #[.int .i64 re] W fun e w' => e = .returned (.string d9) ∧ Below W.heap.size W w' from by rw [hd9]; exact DgT.print_any re a6 b6 W)
      have z9 : d9.size ≤ 100 := by rw [hd9]; exact itoa_len _ ⟨a6, b6⟩
      have E9 := Lib.hid hd9
      clear hd9
      obtain ⟨d10, hd10⟩ : ∃ x, x = bitB rh := ⟨_, rfl⟩
      have C10 := Lib.hid (fun (W : World) => show Calls Tryd.prog 60 #[.bool rh] W fun e w' => e = .returned (.string d10) ∧ w' = W from by rw [hd10]; exact bit_ref rh W)
      have z10 : d10.size ≤ 100 := by rw [hd10]; exact bit_len rh
      have E10 := Lib.hid hd10
      clear hd10
      obtain ⟨d11, hd11⟩ : ∃ x, x = bitB rd := ⟨_, rfl⟩
      have C11 := Lib.hid (fun (W : World) => show Calls Tryd.prog 60 #[.bool rd] W fun e w' => e = .returned (.string d11) ∧ w' = W from by rw [hd11]; exact bit_ref rd W)
      have z11 : d11.size ≤ 100 := by rw [hd11]; exact bit_len rd
      have E11 := Lib.hid hd11
      clear hd11
      obtain ⟨d12, hd12⟩ : ∃ x, x = hxp rv := ⟨_, rfl⟩
      have C12 := Lib.hid (fun (W : World) => show Calls Tryd.prog 59 #[.string rv] W fun e w' => e = .returned (.string d12) ∧ Below W.heap.size W w' from by rw [hd12]; exact HxRef.print_any rv (by omega) W)
      have z12 : d12.size ≤ 2097153 := by rw [hd12]; have := hxp_len rv; omega
      have E12 := Lib.hid hd12
      clear hd12
      obtain ⟨d13, hd13⟩ : ∃ x, x = ita rn := ⟨_, rfl⟩
      have C13 := Lib.hid (fun (W : World) => show Calls Tryd.prog 51 #[.int .i64 rn] W fun e w' => e = .returned (.string d13) ∧ Below W.heap.size W w' from by rw [hd13]; exact DgT.print_any rn a7 b7 W)
      have z13 : d13.size ≤ 100 := by rw [hd13]; exact itoa_len _ ⟨a7, b7⟩
      have E13 := Lib.hid hd13
      clear hd13
      obtain ⟨d14, hd14⟩ : ∃ x, x = ita (rp.length : Int) := ⟨_, rfl⟩
      have C14 := Lib.hid (fun (W : World) => show Calls Tryd.prog 51 #[.int .i64 (rp.length : Int)] W fun e w' => e = .returned (.string d14) ∧ Below W.heap.size W w' from by rw [hd14]; exact DgT.print_any (rp.length : Int) hrl0 hrl1 W)
      have z14 : d14.size ≤ 100 := by rw [hd14]; exact itoa_len _ ⟨hrl0, hrl1⟩
      have E14 := Lib.hid hd14
      clear hd14
      have HWB0 := Lib.hid (Below.refl W0.heap.size W0)
      clear a1 b1 a2 b2 a3 b3 a4 b4 a5 b5 a6 b6 a7 b7 t1 t2 t3 t4 hrl0 hrl1
      have f0 : ∀ p : BelowBy W0, World.cell? p.w ⟨wr.heap.size, 0, none⟩ = some (.int .i64 ct) := fun p => (HWB0.out.trans (p.hb.mono HWB0.out.size)).cell (p := ⟨wr.heap.size, 0, none⟩) (Nat.lt_of_succ_lt HW0.out.1) |>.trans (cell_of' HW0.out.2.1 0)
      have f1 : ∀ p : BelowBy W0, World.cell? p.w ⟨wr.heap.size, 1, none⟩ = some (.int .i64 ci) := fun p => (HWB0.out.trans (p.hb.mono HWB0.out.size)).cell (p := ⟨wr.heap.size, 1, none⟩) (Nat.lt_of_succ_lt HW0.out.1) |>.trans (cell_of' HW0.out.2.1 1)
      have f2 : ∀ p : BelowBy W0, World.cell? p.w ⟨wr.heap.size, 2, none⟩ = some (.int .i64 ok) := fun p => (HWB0.out.trans (p.hb.mono HWB0.out.size)).cell (p := ⟨wr.heap.size, 2, none⟩) (Nat.lt_of_succ_lt HW0.out.1) |>.trans (cell_of' HW0.out.2.1 2)
      have D0 := Lib.hid (fun p : BelowBy W0 => calls_bel (p := p) (C0.out p.w))
      have D1 := Lib.hid (fun p : BelowBy W0 => calls_bel (p := p) (C1.out p.w))
      have D2 := Lib.hid (fun p : BelowBy W0 => calls_bel (p := p) (C2.out p.w))
      have n0 : ¬ 9223372036854775807 < S0.size + d0.size := by omega
      have n1 : ¬ 9223372036854775807 < S0.size + d0.size + 1 := by omega
      have n2 : ¬ 9223372036854775807 < S0.size + d0.size + 1 + d1.size := by omega
      have n3 : ¬ 9223372036854775807 < S0.size + d0.size + 1 + d1.size + 1 := by omega
      have n4 : ¬ 9223372036854775807 < S0.size + d0.size + 1 + d1.size + 1 + d2.size := by omega
      refine wp_region_bel (by kernel_rfl) (by kernel_rfl) ?_
      repeat (first | go_big_quiet_step (first | (go_at_call 51; with_reducible exact D0.out _) | (go_at_call 51; with_reducible exact D1.out _) | (go_at_call 51; with_reducible exact D2.out _)))
      refine wpQuiet_nil ?_
      intro w1 hw1
      obtain ⟨⟨w1', hb1⟩, hw1'⟩ := hw1
      dsimp only at hw1'
      subst hw1'
      obtain ⟨S1, hS1⟩ : ∃ x : ByteArray, x = (((((S0 ++ d0) ++ ⟨#[32]⟩) ++ d1) ++ ⟨#[32]⟩) ++ d2) := ⟨_, rfl⟩
      rw [← hS1]
      have zS1 : S1.size ≤ S0.size + 6291480 := by
        rw [hS1]
        have h32 : (⟨#[32]⟩ : ByteArray).size = 1 := rfl
        simp only [ByteArray.size_append, h32]
        omega
      have HS1 := Lib.hid hS1
      have HWB1 := Lib.hid (HWB0.out.trans (hb1.mono HWB0.out.size))
      clear hS1 hb1 n0 n1 n2 n3 n4 f0 f1 f2
      go_wp2_with fail
      have f3 : ∀ p : BelowBy w1, World.cell? p.w ⟨wr.heap.size, 3, none⟩ = some (.string okey) := fun p => (HWB1.out.trans (p.hb.mono HWB1.out.size)).cell (p := ⟨wr.heap.size, 3, none⟩) (Nat.lt_of_succ_lt HW0.out.1) |>.trans (cell_of' HW0.out.2.1 3)
      have f4 : ∀ p : BelowBy w1, World.cell? p.w ⟨wr.heap.size, 4, none⟩ = some (.string oval) := fun p => (HWB1.out.trans (p.hb.mono HWB1.out.size)).cell (p := ⟨wr.heap.size, 4, none⟩) (Nat.lt_of_succ_lt HW0.out.1) |>.trans (cell_of' HW0.out.2.1 4)
      have f5 : ∀ p : BelowBy w1, World.cell? p.w ⟨wr.heap.size, 5, none⟩ = some (.string oold) := fun p => (HWB1.out.trans (p.hb.mono HWB1.out.size)).cell (p := ⟨wr.heap.size, 5, none⟩) (Nat.lt_of_succ_lt HW0.out.1) |>.trans (cell_of' HW0.out.2.1 5)
      have D3 := Lib.hid (fun p : BelowBy w1 => calls_bel (p := p) (C3.out p.w))
      have D4 := Lib.hid (fun p : BelowBy w1 => calls_bel (p := p) (C4.out p.w))
      have D5 := Lib.hid (fun p : BelowBy w1 => calls_bel (p := p) (C5.out p.w))
      have n0 : ¬ 9223372036854775807 < S1.size + 1 := by omega
      have n1 : ¬ 9223372036854775807 < S1.size + 1 + d3.size := by omega
      have n2 : ¬ 9223372036854775807 < S1.size + 1 + d3.size + 1 := by omega
      have n3 : ¬ 9223372036854775807 < S1.size + 1 + d3.size + 1 + d4.size := by omega
      have n4 : ¬ 9223372036854775807 < S1.size + 1 + d3.size + 1 + d4.size + 1 := by omega
      have n5 : ¬ 9223372036854775807 < S1.size + 1 + d3.size + 1 + d4.size + 1 + d5.size := by omega
      refine wp_region_bel (by kernel_rfl) (by kernel_rfl) ?_
      repeat (first | go_big_quiet_step (first | (go_at_call 59; with_reducible exact D3.out _) | (go_at_call 59; with_reducible exact D4.out _) | (go_at_call 59; with_reducible exact D5.out _)))
      refine wpQuiet_nil ?_
      intro w2 hw2
      obtain ⟨⟨w2', hb2⟩, hw2'⟩ := hw2
      dsimp only at hw2'
      subst hw2'
      obtain ⟨S2, hS2⟩ : ∃ x : ByteArray, x = ((((((S1 ++ ⟨#[32]⟩) ++ d3) ++ ⟨#[32]⟩) ++ d4) ++ ⟨#[32]⟩) ++ d5) := ⟨_, rfl⟩
      rw [← hS2]
      have zS2 : S2.size ≤ S1.size + 6291480 := by
        rw [hS2]
        have h32 : (⟨#[32]⟩ : ByteArray).size = 1 := rfl
        simp only [ByteArray.size_append, h32]
        omega
      have HS2 := Lib.hid hS2
      have HWB2 := Lib.hid (HWB1.out.trans (hb2.mono HWB1.out.size))
      clear hS2 hb2 n0 n1 n2 n3 n4 n5 f3 f4 f5
      go_wp2_with fail
      have f6 : ∀ p : BelowBy w2, World.cell? p.w ⟨wr.heap.size, 6, none⟩ = some (.int .i64 cb) := fun p => (HWB2.out.trans (p.hb.mono HWB2.out.size)).cell (p := ⟨wr.heap.size, 6, none⟩) (Nat.lt_of_succ_lt HW0.out.1) |>.trans (cell_of' HW0.out.2.1 6)
      have f7 : ∀ p : BelowBy w2, World.cell? p.w ⟨wr.heap.size, 7, none⟩ = some (.int .i64 ce) := fun p => (HWB2.out.trans (p.hb.mono HWB2.out.size)).cell (p := ⟨wr.heap.size, 7, none⟩) (Nat.lt_of_succ_lt HW0.out.1) |>.trans (cell_of' HW0.out.2.1 7)
      have f8 : ∀ p : BelowBy w2, World.cell? p.w ⟨wr.heap.size, 8, none⟩ = some (.bool cd) := fun p => (HWB2.out.trans (p.hb.mono HWB2.out.size)).cell (p := ⟨wr.heap.size, 8, none⟩) (Nat.lt_of_succ_lt HW0.out.1) |>.trans (cell_of' HW0.out.2.1 8)
      have D6 := Lib.hid (fun p : BelowBy w2 => calls_bel (p := p) (C6.out p.w))
      have D7 := Lib.hid (fun p : BelowBy w2 => calls_bel (p := p) (C7.out p.w))
      have D8 := Lib.hid (fun p : BelowBy w2 => calls_bel_same (p := p) (C8.out p.w))
      have n0 : ¬ 9223372036854775807 < S2.size + 1 := by omega
      have n1 : ¬ 9223372036854775807 < S2.size + 1 + d6.size := by omega
      have n2 : ¬ 9223372036854775807 < S2.size + 1 + d6.size + 1 := by omega
      have n3 : ¬ 9223372036854775807 < S2.size + 1 + d6.size + 1 + d7.size := by omega
      have n4 : ¬ 9223372036854775807 < S2.size + 1 + d6.size + 1 + d7.size + 1 := by omega
      have n5 : ¬ 9223372036854775807 < S2.size + 1 + d6.size + 1 + d7.size + 1 + d8.size := by omega
      refine wp_region_bel (by kernel_rfl) (by kernel_rfl) ?_
      repeat (first | go_big_quiet_step (first | (go_at_call 51; with_reducible exact D6.out _) | (go_at_call 51; with_reducible exact D7.out _) | (go_at_call 60; with_reducible exact D8.out _)))
      refine wpQuiet_nil ?_
      intro w3 hw3
      obtain ⟨⟨w3', hb3⟩, hw3'⟩ := hw3
      dsimp only at hw3'
      subst hw3'
      obtain ⟨S3, hS3⟩ : ∃ x : ByteArray, x = ((((((S2 ++ ⟨#[32]⟩) ++ d6) ++ ⟨#[32]⟩) ++ d7) ++ ⟨#[32]⟩) ++ d8) := ⟨_, rfl⟩
      rw [← hS3]
      have zS3 : S3.size ≤ S2.size + 6291480 := by
        rw [hS3]
        have h32 : (⟨#[32]⟩ : ByteArray).size = 1 := rfl
        simp only [ByteArray.size_append, h32]
        omega
      have HS3 := Lib.hid hS3
      have HWB3 := Lib.hid (HWB2.out.trans (hb3.mono HWB2.out.size))
      clear hS3 hb3 n0 n1 n2 n3 n4 n5 f6 f7 f8
      go_wp2_with fail
      have f9 : ∀ p : BelowBy w3, World.cell? p.w ⟨wr.heap.size + 1, 0, none⟩ = some (.int .i64 re) := fun p => (HWB3.out.trans (p.hb.mono HWB3.out.size)).cell (p := ⟨wr.heap.size + 1, 0, none⟩) (HW0.out.1) |>.trans (cell_of' HW0.out.2.2.1 0)
      have f10 : ∀ p : BelowBy w3, World.cell? p.w ⟨wr.heap.size + 1, 1, none⟩ = some (.bool rh) := fun p => (HWB3.out.trans (p.hb.mono HWB3.out.size)).cell (p := ⟨wr.heap.size + 1, 1, none⟩) (HW0.out.1) |>.trans (cell_of' HW0.out.2.2.1 1)
      have f11 : ∀ p : BelowBy w3, World.cell? p.w ⟨wr.heap.size + 1, 2, none⟩ = some (.bool rd) := fun p => (HWB3.out.trans (p.hb.mono HWB3.out.size)).cell (p := ⟨wr.heap.size + 1, 2, none⟩) (HW0.out.1) |>.trans (cell_of' HW0.out.2.2.1 2)
      have f12 : ∀ p : BelowBy w3, World.cell? p.w ⟨wr.heap.size + 1, 3, none⟩ = some (.string rv) := fun p => (HWB3.out.trans (p.hb.mono HWB3.out.size)).cell (p := ⟨wr.heap.size + 1, 3, none⟩) (HW0.out.1) |>.trans (cell_of' HW0.out.2.2.1 3)
      have D9 := Lib.hid (fun p : BelowBy w3 => calls_bel (p := p) (C9.out p.w))
      have D10 := Lib.hid (fun p : BelowBy w3 => calls_bel_same (p := p) (C10.out p.w))
      have D11 := Lib.hid (fun p : BelowBy w3 => calls_bel_same (p := p) (C11.out p.w))
      have D12 := Lib.hid (fun p : BelowBy w3 => calls_bel (p := p) (C12.out p.w))
      have n0 : ¬ 9223372036854775807 < S3.size + 1 := by omega
      have n1 : ¬ 9223372036854775807 < S3.size + 1 + d9.size := by omega
      have n2 : ¬ 9223372036854775807 < S3.size + 1 + d9.size + 1 := by omega
      have n3 : ¬ 9223372036854775807 < S3.size + 1 + d9.size + 1 + d10.size := by omega
      have n4 : ¬ 9223372036854775807 < S3.size + 1 + d9.size + 1 + d10.size + 1 := by omega
      have n5 : ¬ 9223372036854775807 < S3.size + 1 + d9.size + 1 + d10.size + 1 + d11.size := by omega
      have n6 : ¬ 9223372036854775807 < S3.size + 1 + d9.size + 1 + d10.size + 1 + d11.size + 1 := by omega
      have n7 : ¬ 9223372036854775807 < S3.size + 1 + d9.size + 1 + d10.size + 1 + d11.size + 1 + d12.size := by omega
      refine wp_region_bel (by kernel_rfl) (by kernel_rfl) ?_
      repeat (first | go_big_quiet_step (first | (go_at_call 51; with_reducible exact D9.out _) | (go_at_call 60; with_reducible exact D10.out _) | (go_at_call 60; with_reducible exact D11.out _) | (go_at_call 59; with_reducible exact D12.out _)))
      refine wpQuiet_nil ?_
      intro w4 hw4
      obtain ⟨⟨w4', hb4⟩, hw4'⟩ := hw4
      dsimp only at hw4'
      subst hw4'
      obtain ⟨S4, hS4⟩ : ∃ x : ByteArray, x = ((((((((S3 ++ ⟨#[32]⟩) ++ d9) ++ ⟨#[32]⟩) ++ d10) ++ ⟨#[32]⟩) ++ d11) ++ ⟨#[32]⟩) ++ d12) := ⟨_, rfl⟩
      rw [← hS4]
      have zS4 : S4.size ≤ S3.size + 8388640 := by
        rw [hS4]
        have h32 : (⟨#[32]⟩ : ByteArray).size = 1 := rfl
        simp only [ByteArray.size_append, h32]
        omega
      have HS4 := Lib.hid hS4
      have HWB4 := Lib.hid (HWB3.out.trans (hb4.mono HWB3.out.size))
      clear hS4 hb4 n0 n1 n2 n3 n4 n5 n6 n7 f9 f10 f11 f12
      go_wp2_with fail
      have f13 : ∀ p : BelowBy w4, World.cell? p.w ⟨wr.heap.size + 1, 4, none⟩ = some (.int .i64 rn) := fun p => (HWB4.out.trans (p.hb.mono HWB4.out.size)).cell (p := ⟨wr.heap.size + 1, 4, none⟩) (HW0.out.1) |>.trans (cell_of' HW0.out.2.2.1 4)
      have f14 : ∀ p : BelowBy w4, World.cell? p.w ⟨wr.heap.size + 1, 5, none⟩ = some (.slice PA rp.length pcap) := fun p => (HWB4.out.trans (p.hb.mono HWB4.out.size)).cell (p := ⟨wr.heap.size + 1, 5, none⟩) (HW0.out.1) |>.trans (cell_of' HW0.out.2.2.1 5)
      have D13 := Lib.hid (fun p : BelowBy w4 => calls_bel (p := p) (C13.out p.w))
      have D14 := Lib.hid (fun p : BelowBy w4 => calls_bel (p := p) (C14.out p.w))
      have n0 : ¬ 9223372036854775807 < S4.size + 1 := by omega
      have n1 : ¬ 9223372036854775807 < S4.size + 1 + d13.size := by omega
      have n2 : ¬ 9223372036854775807 < S4.size + 1 + d13.size + 1 := by omega
      have n3 : ¬ 9223372036854775807 < S4.size + 1 + d13.size + 1 + d14.size := by omega
      refine wp_region_bel (by kernel_rfl) (by kernel_rfl) ?_
      repeat (first | go_big_quiet_step (first | (go_at_call 51; with_reducible exact D13.out _) | (go_at_call 51; with_reducible exact D14.out _)))
      refine wpQuiet_nil ?_
      intro w5 hw5
      obtain ⟨⟨w5', hb5⟩, hw5'⟩ := hw5
      dsimp only at hw5'
      subst hw5'
      obtain ⟨S5, hS5⟩ : ∃ x : ByteArray, x = ((((S4 ++ ⟨#[32]⟩) ++ d13) ++ ⟨#[32]⟩) ++ d14) := ⟨_, rfl⟩
      rw [← hS5]
      have zS5 : S5.size ≤ S4.size + 4194320 := by
        rw [hS5]
        have h32 : (⟨#[32]⟩ : ByteArray).size = 1 := rfl
        simp only [ByteArray.size_append, h32]
        omega
      have HS5 := Lib.hid hS5
      have HWB5 := Lib.hid (HWB4.out.trans (hb5.mono HWB4.out.size))
      clear hS5 hb5 n0 n1 n2 n3 f13 f14
      go_wp2_with fail
      have HAH := Lib.hid (show S5 = ahead ((l.map (·.1)).take k) ⟨ct, ci, ⟨ok, okey, oval, oold⟩, cb, ce, cd, ⟨re, rh, rd, rv, rn, rp⟩⟩ 0 from by
        rw [HS5.out, HS4.out, HS3.out, HS2.out, HS1.out, HS.out, E0.out, E1.out, E2.out, E3.out, E4.out, E5.out, E6.out, E7.out, E8.out, E9.out, E10.out, E11.out, E12.out, E13.out, E14.out]
        refine data_inj ?_
        unfold ahead rest lineK wordsL word15
        simp [ByteArray.data_append, Tx.jn, wordsP])
      have HA := Lib.hid (fun (t : Nat) (p : Pr) (h : rp[t]? = some p) => show ahead ((l.map (·.1)).take k) ⟨ct, ci, ⟨ok, okey, oval, oold⟩, cb, ce, cd, ⟨re, rh, rd, rv, rn, rp⟩⟩ (t + 1) = (((ahead ((l.map (·.1)).take k) ⟨ct, ci, ⟨ok, okey, oval, oold⟩, cb, ce, cd, ⟨re, rh, rd, rv, rn, rp⟩⟩ t ++ ⟨#[32]⟩) ++ hxp p.1) ++ ⟨#[32]⟩) ++ hxp p.2 from by
        refine data_inj ?_
        unfold ahead
        rw [lineK_snoc (c := ⟨ct, ci, ⟨ok, okey, oval, oold⟩, cb, ce, cd, ⟨re, rh, rd, rv, rn, rp⟩⟩) h]
        simp [ByteArray.data_append])
      have HAB := Lib.hid (fun (t : Nat) => show (ahead ((l.map (·.1)).take k) ⟨ct, ci, ⟨ok, okey, oval, oold⟩, cb, ce, cd, ⟨re, rh, rd, rv, rn, rp⟩⟩ t).size ≤ 860000000000 from by
        have h1 := HTL.out k
        have h2 : ((l.map (·.1)).take k).length ≤ 100 := by rw [List.length_take, List.length_map]; omega
        have h3 := Nat.mul_le_mul_right 8500000001 h2
        have h4 := lineK_bound HOK.out t
        show (printM ((l.map (·.1)).take k) ++ lineK ⟨ct, ci, ⟨ok, okey, oval, oold⟩, cb, ce, cd, ⟨re, rh, rd, rv, rn, rp⟩⟩ t).toArray.size ≤ _
        rw [List.size_toArray, List.length_append]; omega)
      have HAE := Lib.hid (show (ahead ((l.map (·.1)).take k) ⟨ct, ci, ⟨ok, okey, oval, oold⟩, cb, ce, cd, ⟨re, rh, rd, rv, rn, rp⟩⟩ rp.length) ++ ⟨#[10]⟩ = rest ((l.map (·.1)).take (k + 1)) from by
        refine data_inj ?_
        unfold ahead rest
        rw [HSN.out, line_eq]
        have := lineK_all ⟨ct, ci, ⟨ok, okey, oval, oold⟩, cb, ce, cd, ⟨re, rh, rd, rv, rn, rp⟩⟩
        dsimp only at this
        rw [this]
        simp [ByteArray.data_append])
      have HRS := Lib.hid (show ∀ W, Below w5.heap.size w5 W → W.cell? ⟨wr.heap.size + 1, 5, none⟩ = some (.slice PA rp.length pcap) from fun W hW => (HWB5.out.trans (hW.mono HWB5.out.size)).cell (p := ⟨wr.heap.size + 1, 5, none⟩) HW0.out.1 |>.trans (cell_of' HW0.out.2.2.1 5))
      have HBW := Lib.hid (show Below w.heap.size w w5 from HB.out.trans ((HW0.out.2.2.2.trans (HWB5.out.mono (Nat.le_of_lt (Nat.lt_of_succ_lt HW0.out.1)))).mono HB.out.size))
      clear zS1 zS2 zS3 zS4 zS5 hS0 z0 z1 z2 z3 z4 z5 z6 z7 z8 z9 z10 z11 z12 z13 z14
      rw [HAH.out]
      obtain ⟨B0, hB0⟩ : ∃ x, x = wr.heap.size := ⟨_, rfl⟩
      rw [← hB0] at HRS ⊢
      clear hB0
      go_loopw [3, 7] (fun sv i w6 => ∃ t : Nat, t ≤ rp.length ∧ i = .int .i64 t ∧ sv = .string (ahead ((l.map (·.1)).take k) ⟨ct, ci, ⟨ok, okey, oval, oold⟩, cb, ce, cd, ⟨re, rh, rd, rv, rn, rp⟩⟩ t) ∧ Below w5.heap.size w5 w6) (fun _ i _ => rp.length - (intOf i).toNat)
      case atStart => exact ⟨0, Nat.zero_le _, rfl, rfl, Below.refl _ _⟩
      case round =>
        obtain ⟨t, ht, rfl, rfl, hB6⟩ := hrel
        have HB6 := Lib.hid hB6
        have HBW6 := Lib.hid (HBW.out.trans (hB6.mono HBW.out.size))
        have r5 := HRS.out wr hB6
        clear hB6
        have zA := HAB.out t
        by_cases htl : t < rp.length
        · obtain ⟨pr, hpr⟩ : ∃ p, rp[t]? = some p := ⟨_, List.getElem?_eq_getElem htl⟩
          obtain ⟨bp, op, rfl, hbp, hc1, hc2⟩ := HPP.out t pr hpr
          have HAN := Lib.hid (HA.out t pr hpr)
          have HPQ := Lib.hid (HOK.out.pairs pr (List.mem_of_getElem? hpr))
          obtain ⟨p1, p2⟩ := pr
          dsimp only at hc1 hc2 HAN HPQ
          obtain ⟨q1, q2⟩ := HPQ.out
          obtain ⟨AT, hAT⟩ : ∃ x, x = ahead ((l.map (·.1)).take k) ⟨ct, ci, ⟨ok, okey, oval, oold⟩, cb, ce, cd, ⟨re, rh, rd, rv, rn, rp⟩⟩ t := ⟨_, rfl⟩
          rw [← hAT] at zA HAN ⊢
          obtain ⟨d1, hd1⟩ : ∃ x, x = hxp p1 := ⟨_, rfl⟩
          obtain ⟨d2, hd2⟩ : ∃ x, x = hxp p2 := ⟨_, rfl⟩
          rw [← hd1, ← hd2] at HAN
          have C1 := Lib.hid (fun (W : World) => show Calls Tryd.prog 59 #[.string p1] W fun e w' => e = .returned (.string d1) ∧ Below W.heap.size W w' from by rw [hd1]; exact HxRef.print_any p1 (by omega) W)
          have C2 := Lib.hid (fun (W : World) => show Calls Tryd.prog 59 #[.string p2] W fun e w' => e = .returned (.string d2) ∧ Below W.heap.size W w' from by rw [hd2]; exact HxRef.print_any p2 (by omega) W)
          have z1 : d1.size ≤ 2097153 := by rw [hd1]; have := hxp_len p1; omega
          have z2 : d2.size ≤ 2097153 := by rw [hd2]; have := hxp_len p2; omega
          clear hd1 hd2
          have HK1 := Lib.hid hc1
          have HK2 := Lib.hid hc2
          clear hc1 hc2 hpr hAT q1 q2
          go_wp2_with fail
          have g5 : ∀ p : BelowBy wr, World.cell? p.w ⟨B0 + 1, 5, none⟩ = some (.slice (some ⟨bp, op, none⟩) rp.length pcap) := fun p => HRS.out p.w (HB6.out.trans (p.hb.mono HB6.out.size))
          have g6 : ∀ p : BelowBy wr, World.cell? p.w ⟨bp, op + t * 2, none⟩ = some (.string p1) := fun p => ((HBW6.out.trans (p.hb.mono HBW6.out.size)).cell (p := ⟨bp, op + t * 2, none⟩) hbp).trans HK1.out
          have g7 : ∀ p : BelowBy wr, World.cell? p.w ⟨bp, op + t * 2 + 1, none⟩ = some (.string p2) := fun p => ((HBW6.out.trans (p.hb.mono HBW6.out.size)).cell (p := ⟨bp, op + t * 2 + 1, none⟩) hbp).trans HK2.out
          have D1 := Lib.hid (fun p : BelowBy wr => calls_bel (p := p) (C1.out p.w))
          have D2 := Lib.hid (fun p : BelowBy wr => calls_bel (p := p) (C2.out p.w))
          have n0 : ¬ 9223372036854775807 < AT.size + 1 := by omega
          have n1 : ¬ 9223372036854775807 < AT.size + 1 + d1.size := by omega
          have n2 : ¬ 9223372036854775807 < AT.size + 1 + d1.size + 1 := by omega
          have n3 : ¬ 9223372036854775807 < AT.size + 1 + d1.size + 1 + d2.size := by omega
          clear r5
          refine wp_region_bel (by kernel_rfl) (by kernel_rfl) ?_
          repeat (first | go_big_quiet_step (first | (go_at_call 59; with_reducible exact D1.out _) | (go_at_call 59; with_reducible exact D2.out _)))
          refine wpQuiet_nil ?_
          intro w7 hw7
          obtain ⟨⟨w7', hb7⟩, hw7'⟩ := hw7
          dsimp only at hw7'
          subst hw7'
          have HB7 := Lib.hid hb7
          clear hb7 n0 n1 n2 n3 g5 g6 g7
          go_wp2_with fail
          go_roundw
          case rel => exact ⟨t + 1, by omega, by go_num, by rw [HAN.out], HB6.out.trans (HB7.out.mono HB6.out.size)⟩
          case measure => simp [intOf]; omega
        · have htt : t = rp.length := by omega
          subst htt
          have n0 : ¬ 9223372036854775807 < (ahead ((l.map (·.1)).take k) ⟨ct, ci, ⟨ok, okey, oval, oold⟩, cb, ce, cd, ⟨re, rh, rd, rv, rn, rp⟩⟩ rp.length).size + 1 := by omega
          go_wp2_with fail
          rw [HAE.out]
          go_roundw
          case rel => exact ⟨k + 1, by omega, by go_num, rfl, HBW6.out⟩
          case measure => simp [intOf]; omega
    · have hke : k = l.length := by omega
      have HE := Lib.hid (show S0 = rest (l.map (·.1)) by rw [HS.out, hke, show l.length = (l.map (·.1)).length by simp, List.take_length])
      go_wp2_with fail
      go_ret
      exact ⟨by rw [← HE.out]; rfl, HB.out⟩
end Go.Proofs.YtdibkhddhgaghaaDoor.Hs
