/- The references' Same, where both are the same. -/
import Derived.Test.YtdibkhddhgaghaaDoorHistRight
import Derived.Deep.QuietTactic
import Derived.BigQuiet
import Derived.Laws.StructEq
namespace Go.Proofs.YtdibkhddhgaghaaDoor.Hs
open Go.RowKit Bq
set_option linter.unusedVariables false
set_option linter.unusedSimpArgs false
theorem pair_eq_self (a b : ByteArray) (w : World) : (Op.equalIn 10000 95 (.agg #[.string a, .string b]) (.agg #[.string a, .string b])).run Tryd.prog w = .ok true w := by
  have u9 := Tryd.underlying9
  rw [run_equalIn_agg _ _ _ _ _ (by kernel_rfl) (by kernel_rfl)]
  simp only [Program.fieldsOf, Tryd.underlying95]
  go_simp
theorem op_eq_self (k : Int) (a b c : ByteArray) (w : World) : (Op.equalIn 10000 45 (.agg #[.int .i64 k, .string a, .string b, .string c]) (.agg #[.int .i64 k, .string a, .string b, .string c])).run Tryd.prog w = .ok true w := by
  have u9 := Tryd.underlying9
  have u3 := Tryd.underlying3
  rw [run_equalIn_agg _ _ _ _ _ (by kernel_rfl) (by kernel_rfl)]
  simp only [Program.fieldsOf, Tryd.underlying45]
  go_simp
theorem pair_neq_self (a b : ByteArray) (w : World) : (binOp .neq 95 (.agg #[.string a, .string b]) (.agg #[.string a, .string b])).run Tryd.prog w = .ok (.bool false) w := by
  rw [run_neq_struct, pair_eq_self]
  rfl
theorem op_neq_self (k : Int) (a b c : ByteArray) (w : World) : (binOp .neq 45 (.agg #[.int .i64 k, .string a, .string b, .string c]) (.agg #[.int .i64 k, .string a, .string b, .string c])).run Tryd.prog w = .ok (.bool false) w := by
  rw [run_neq_struct, op_eq_self]
  rfl
theorem prs_shape {w : World} {v : Value} {l : List Pr} (h : Prs w v l) : ∃ A c, v = .slice A l.length c := by
  obtain ⟨A, c, rfl, _⟩ := h; exact ⟨A, c, rfl⟩
theorem drewN_bel {W w : World} {n : Nat} (h : Below W.heap.size W w) : Below W.heap.size W (w.drewN n) := ⟨h.os, h.tape, h.output, h.size, h.block⟩
set_option maxRecDepth 100000 in
set_option maxHeartbeats 8000000 in
theorem same06 (w : World) (v u : Value) (l : List Pr) (h : Prs w v l) (h' : Prs w u l) (hn : l.length < 1000000000) :
    Calls Tryd.prog 99 #[v, u] w fun e w' => e = .returned (.bool true) ∧ Below w.heap.size w w' := by
  obtain ⟨A, cap, rfl, _, hc⟩ := h
  obtain ⟨A', cap', rfl, _, hc'⟩ := h'
  have HC := Lib.hid hc
  have HC' := Lib.hid hc'
  clear hc hc'
  go_enter Tryd.func99, Tryd.ntmps99
  go_wp2
  go_loopw [5] (fun i wr => ∃ k : Nat, k ≤ l.length ∧ i = .int .i64 k ∧ ∃ n, wr = w.drewN n) (fun i _ => l.length - (intOf i).toNat)
  case atStart => exact ⟨0, by omega, rfl, 0, rfl⟩
  case round =>
    obtain ⟨k, hk, rfl, n, rfl⟩ := hrel
    by_cases hp : k < l.length
    · obtain ⟨p, hp2⟩ : ∃ p, l[k]? = some p := ⟨_, List.getElem?_eq_getElem (by omega)⟩
      obtain ⟨b, o, rfl, hb1, c1, c2⟩ := HC.out k p hp2
      obtain ⟨b', o', rfl, hb2, d1, d2⟩ := HC'.out k p hp2
      have hnq : ∀ w, (binOp .neq 95 (.agg #[.string p.1, .string p.2]) (.agg #[.string p.1, .string p.2])).run Tryd.prog w = .ok (.bool false) w := fun w => pair_neq_self _ _ w
      clear hp2
      go_wp2
      go_quiet (fail)
      go_wp2
      exact ⟨⟨k + 1, by omega, by go_num, n + nq, rfl⟩, by show l.length - ((k : Int) + 1).toNat < l.length - (k : Int).toNat; omega⟩
    · go_wp2
      go_ret
      exact ⟨rfl, drewN_bel (Below.refl _ _)⟩
set_option maxHeartbeats 8000000 in
set_option maxRecDepth 100000 in
theorem same07 (w : World) (r : Rep) (pa pb : Value) (ha : Prs w pa r.pairs) (hb : Prs w pb r.pairs) (hl : r.pairs.length < 1000000000) :
    Calls Tryd.prog 61 #[encR r pa, encR r pb] w fun e w' => e = .returned (.bool true) ∧ Below w.heap.size w w' := by
  obtain ⟨ae, ah, ad, av, an, ap⟩ := r
  unfold encR
  dsimp only at ha hb hl ⊢
  have hw : Below w.heap.size w ((w.alloc (.cells #[.int .i64 ae, .bool ah, .bool ad, .string av, .int .i64 an, pa] 48)).alloc (.cells #[.int .i64 ae, .bool ah, .bool ad, .string av, .int .i64 an, pb] 48)) := ((Below.refl _ _).alloc (Nat.le_refl _) _).alloc (by simp) _
  have HA := Lib.hid (ha.below hw)
  have HB := Lib.hid (hb.below hw)
  have HW := Lib.hid hw
  clear ha hb hw
  go_enter Tryd.func61, Tryd.ntmps61
  go_wp2_with fail
  refine (same06 _ _ _ _ HA.out HB.out hl).mono ?_
  rintro e w' ⟨rfl, hbx⟩
  have HX := Lib.hid (HW.out.trans (hbx.mono HW.out.size))
  clear hbx
  go_wp2_with fail
  go_ret
  exact ⟨rfl, HX.out⟩
set_option maxRecDepth 100000 in
set_option maxHeartbeats 8000000 in
theorem same38 (w : World) (v u : Value) (l l' : List CV) (h : Cls w v l) (h' : Cls w u l') (he : l.map (·.1) = l'.map (·.1)) (hn : l.length ≤ 100000000) (hp : ∀ q ∈ l, q.1.reply.pairs.length < 1000000000) :
    Calls Tryd.prog 20 #[v, u] w fun e w' => e = .returned (.bool true) ∧ Below w.heap.size w w' := by
  have hll : l.length = l'.length := by have := congrArg List.length he; simpa using this
  have HE := Lib.hid (fun (k : Nat) => (congrArg (fun (x : List CallL) => x[k]?) he))
  have HP := Lib.hid hp
  obtain ⟨A, cap, rfl, _, hc⟩ := h
  obtain ⟨A', cap', rfl, _, hc'⟩ := h'
  have HC := Lib.hid hc
  have HC' := Lib.hid hc'
  rw [← hll]
  have HLL := Lib.hid hll
  clear hc hc' he hp hll
  have hb0 : (l.length != l.length) = false := by simp
  have hb1 : ((l.length : Int) != (l.length : Int)) = false := by simp
  go_enter Tryd.func20, Tryd.ntmps20
  go_wp2_with fail
  go_loopw [5] (fun i wr => ∃ k : Nat, k ≤ l.length ∧ i = .int .i64 k ∧ Below w.heap.size w wr) (fun i _ => l.length - (intOf i).toNat)
  case atStart => exact ⟨0, Nat.zero_le _, rfl, Below.refl _ _⟩
  case round =>
    obtain ⟨k, hk, rfl, hB⟩ := hrel
    by_cases hlt : k < l.length
    · obtain ⟨q, hq⟩ : ∃ q, l[k]? = some q := ⟨_, List.getElem?_eq_getElem hlt⟩
      obtain ⟨q', hq'⟩ : ∃ q, l'[k]? = some q := ⟨_, List.getElem?_eq_getElem (by rw [← HLL.out]; exact hlt)⟩
      have he := HE.out k
      simp only [List.getElem?_map, hq, hq', Option.map_some, Option.some.injEq] at he
      obtain ⟨hP, b, z, rfl, hbl, hcell⟩ := HC.out k q hq
      obtain ⟨hP', b', z', rfl, hbl', hcell'⟩ := HC'.out k q' hq'
      have hpl := HP.out q (List.mem_of_getElem? hq)
      obtain ⟨c, pv⟩ := q
      obtain ⟨c', pv'⟩ := q'
      dsimp only at he hP hP' hcell hcell' hpl
      subst he
      have HPA := Lib.hid (hP.below hB)
      have HPB := Lib.hid (hP'.below hB)
      obtain ⟨PA, pc, rfl⟩ := prs_shape hP
      obtain ⟨PB, pc', rfl⟩ := prs_shape hP'
      have HS := Lib.hid (fun p : BelowBy wr => calls_bel (p := p) (same07 p.w c.reply _ _ (HPA.out.below p.hb) (HPB.out.below p.hb) hpl))
      unfold encR at HS
      have HB := Lib.hid hB
      obtain ⟨ct, ci, ⟨ok, okey, oval, oold⟩, cb, ce, cd, ⟨re, rh, rd, rv, rn, rp⟩⟩ := c
      dsimp only at HS
      have hnq : ∀ w, (binOp .neq 45 (.agg #[.int .i64 ok, .string okey, .string oval, .string oold]) (.agg #[.int .i64 ok, .string okey, .string oval, .string oold])).run Tryd.prog w = .ok (.bool false) w := fun w => op_neq_self _ _ _ _ w
      have s0 : ∀ p : BelowBy wr, World.cell? p.w ⟨b, z + k * 15, none⟩ = some (.int .i64 ct) := fun p => ((hB.trans (p.hb.mono hB.size)).cell (p := ⟨b, z + k * 15 + 0, none⟩) hbl).trans (hcell 0 _ rfl)
      have s1 : ∀ p : BelowBy wr, World.cell? p.w ⟨b, z + k * 15 + 1, none⟩ = some (.int .i64 ci) := fun p => ((hB.trans (p.hb.mono hB.size)).cell (p := ⟨b, z + k * 15 + 1, none⟩) hbl).trans (hcell 1 _ rfl)
      have s2 : ∀ p : BelowBy wr, World.cell? p.w ⟨b, z + k * 15 + 2, none⟩ = some (.int .i64 ok) := fun p => ((hB.trans (p.hb.mono hB.size)).cell (p := ⟨b, z + k * 15 + 2, none⟩) hbl).trans (hcell 2 _ rfl)
      have s3 : ∀ p : BelowBy wr, World.cell? p.w ⟨b, z + k * 15 + 3, none⟩ = some (.string okey) := fun p => ((hB.trans (p.hb.mono hB.size)).cell (p := ⟨b, z + k * 15 + 3, none⟩) hbl).trans (hcell 3 _ rfl)
      have s4 : ∀ p : BelowBy wr, World.cell? p.w ⟨b, z + k * 15 + 4, none⟩ = some (.string oval) := fun p => ((hB.trans (p.hb.mono hB.size)).cell (p := ⟨b, z + k * 15 + 4, none⟩) hbl).trans (hcell 4 _ rfl)
      have s5 : ∀ p : BelowBy wr, World.cell? p.w ⟨b, z + k * 15 + 5, none⟩ = some (.string oold) := fun p => ((hB.trans (p.hb.mono hB.size)).cell (p := ⟨b, z + k * 15 + 5, none⟩) hbl).trans (hcell 5 _ rfl)
      have s6 : ∀ p : BelowBy wr, World.cell? p.w ⟨b, z + k * 15 + 6, none⟩ = some (.int .i64 cb) := fun p => ((hB.trans (p.hb.mono hB.size)).cell (p := ⟨b, z + k * 15 + 6, none⟩) hbl).trans (hcell 6 _ rfl)
      have s7 : ∀ p : BelowBy wr, World.cell? p.w ⟨b, z + k * 15 + 7, none⟩ = some (.int .i64 ce) := fun p => ((hB.trans (p.hb.mono hB.size)).cell (p := ⟨b, z + k * 15 + 7, none⟩) hbl).trans (hcell 7 _ rfl)
      have s8 : ∀ p : BelowBy wr, World.cell? p.w ⟨b, z + k * 15 + 8, none⟩ = some (.bool cd) := fun p => ((hB.trans (p.hb.mono hB.size)).cell (p := ⟨b, z + k * 15 + 8, none⟩) hbl).trans (hcell 8 _ rfl)
      have s9 : ∀ p : BelowBy wr, World.cell? p.w ⟨b, z + k * 15 + 9, none⟩ = some (.int .i64 re) := fun p => ((hB.trans (p.hb.mono hB.size)).cell (p := ⟨b, z + k * 15 + 9, none⟩) hbl).trans (hcell 9 _ rfl)
      have s10 : ∀ p : BelowBy wr, World.cell? p.w ⟨b, z + k * 15 + 10, none⟩ = some (.bool rh) := fun p => ((hB.trans (p.hb.mono hB.size)).cell (p := ⟨b, z + k * 15 + 10, none⟩) hbl).trans (hcell 10 _ rfl)
      have s11 : ∀ p : BelowBy wr, World.cell? p.w ⟨b, z + k * 15 + 11, none⟩ = some (.bool rd) := fun p => ((hB.trans (p.hb.mono hB.size)).cell (p := ⟨b, z + k * 15 + 11, none⟩) hbl).trans (hcell 11 _ rfl)
      have s12 : ∀ p : BelowBy wr, World.cell? p.w ⟨b, z + k * 15 + 12, none⟩ = some (.string rv) := fun p => ((hB.trans (p.hb.mono hB.size)).cell (p := ⟨b, z + k * 15 + 12, none⟩) hbl).trans (hcell 12 _ rfl)
      have s13 : ∀ p : BelowBy wr, World.cell? p.w ⟨b, z + k * 15 + 13, none⟩ = some (.int .i64 rn) := fun p => ((hB.trans (p.hb.mono hB.size)).cell (p := ⟨b, z + k * 15 + 13, none⟩) hbl).trans (hcell 13 _ rfl)
      have s14 : ∀ p : BelowBy wr, World.cell? p.w ⟨b, z + k * 15 + 14, none⟩ = some (.slice PA rp.length pc) := fun p => ((hB.trans (p.hb.mono hB.size)).cell (p := ⟨b, z + k * 15 + 14, none⟩) hbl).trans (hcell 14 _ rfl)
      have u0 : ∀ p : BelowBy wr, World.cell? p.w ⟨b', z' + k * 15, none⟩ = some (.int .i64 ct) := fun p => ((hB.trans (p.hb.mono hB.size)).cell (p := ⟨b', z' + k * 15 + 0, none⟩) hbl').trans (hcell' 0 _ rfl)
      have u1 : ∀ p : BelowBy wr, World.cell? p.w ⟨b', z' + k * 15 + 1, none⟩ = some (.int .i64 ci) := fun p => ((hB.trans (p.hb.mono hB.size)).cell (p := ⟨b', z' + k * 15 + 1, none⟩) hbl').trans (hcell' 1 _ rfl)
      have u2 : ∀ p : BelowBy wr, World.cell? p.w ⟨b', z' + k * 15 + 2, none⟩ = some (.int .i64 ok) := fun p => ((hB.trans (p.hb.mono hB.size)).cell (p := ⟨b', z' + k * 15 + 2, none⟩) hbl').trans (hcell' 2 _ rfl)
      have u3 : ∀ p : BelowBy wr, World.cell? p.w ⟨b', z' + k * 15 + 3, none⟩ = some (.string okey) := fun p => ((hB.trans (p.hb.mono hB.size)).cell (p := ⟨b', z' + k * 15 + 3, none⟩) hbl').trans (hcell' 3 _ rfl)
      have u4 : ∀ p : BelowBy wr, World.cell? p.w ⟨b', z' + k * 15 + 4, none⟩ = some (.string oval) := fun p => ((hB.trans (p.hb.mono hB.size)).cell (p := ⟨b', z' + k * 15 + 4, none⟩) hbl').trans (hcell' 4 _ rfl)
      have u5 : ∀ p : BelowBy wr, World.cell? p.w ⟨b', z' + k * 15 + 5, none⟩ = some (.string oold) := fun p => ((hB.trans (p.hb.mono hB.size)).cell (p := ⟨b', z' + k * 15 + 5, none⟩) hbl').trans (hcell' 5 _ rfl)
      have u6 : ∀ p : BelowBy wr, World.cell? p.w ⟨b', z' + k * 15 + 6, none⟩ = some (.int .i64 cb) := fun p => ((hB.trans (p.hb.mono hB.size)).cell (p := ⟨b', z' + k * 15 + 6, none⟩) hbl').trans (hcell' 6 _ rfl)
      have u7 : ∀ p : BelowBy wr, World.cell? p.w ⟨b', z' + k * 15 + 7, none⟩ = some (.int .i64 ce) := fun p => ((hB.trans (p.hb.mono hB.size)).cell (p := ⟨b', z' + k * 15 + 7, none⟩) hbl').trans (hcell' 7 _ rfl)
      have u8 : ∀ p : BelowBy wr, World.cell? p.w ⟨b', z' + k * 15 + 8, none⟩ = some (.bool cd) := fun p => ((hB.trans (p.hb.mono hB.size)).cell (p := ⟨b', z' + k * 15 + 8, none⟩) hbl').trans (hcell' 8 _ rfl)
      have u9 : ∀ p : BelowBy wr, World.cell? p.w ⟨b', z' + k * 15 + 9, none⟩ = some (.int .i64 re) := fun p => ((hB.trans (p.hb.mono hB.size)).cell (p := ⟨b', z' + k * 15 + 9, none⟩) hbl').trans (hcell' 9 _ rfl)
      have u10 : ∀ p : BelowBy wr, World.cell? p.w ⟨b', z' + k * 15 + 10, none⟩ = some (.bool rh) := fun p => ((hB.trans (p.hb.mono hB.size)).cell (p := ⟨b', z' + k * 15 + 10, none⟩) hbl').trans (hcell' 10 _ rfl)
      have u11 : ∀ p : BelowBy wr, World.cell? p.w ⟨b', z' + k * 15 + 11, none⟩ = some (.bool rd) := fun p => ((hB.trans (p.hb.mono hB.size)).cell (p := ⟨b', z' + k * 15 + 11, none⟩) hbl').trans (hcell' 11 _ rfl)
      have u12 : ∀ p : BelowBy wr, World.cell? p.w ⟨b', z' + k * 15 + 12, none⟩ = some (.string rv) := fun p => ((hB.trans (p.hb.mono hB.size)).cell (p := ⟨b', z' + k * 15 + 12, none⟩) hbl').trans (hcell' 12 _ rfl)
      have u13 : ∀ p : BelowBy wr, World.cell? p.w ⟨b', z' + k * 15 + 13, none⟩ = some (.int .i64 rn) := fun p => ((hB.trans (p.hb.mono hB.size)).cell (p := ⟨b', z' + k * 15 + 13, none⟩) hbl').trans (hcell' 13 _ rfl)
      have u14 : ∀ p : BelowBy wr, World.cell? p.w ⟨b', z' + k * 15 + 14, none⟩ = some (.slice PB rp.length pc') := fun p => ((hB.trans (p.hb.mono hB.size)).cell (p := ⟨b', z' + k * 15 + 14, none⟩) hbl').trans (hcell' 14 _ rfl)
      clear hcell hcell' hq hq' hB hP hP'
      go_wp2_with fail
      refine wp_region_bel (by kernel_rfl) (by kernel_rfl) ?_
      repeat (first | go_big_quiet_step ((go_at_call 61; exact HS.out _)) | quiet_step ((go_at_call 61; exact HS.out _)))
      refine wpQuiet_nil ?_
      intro w5 hw5
      obtain ⟨⟨w5', hb5⟩, hw5'⟩ := hw5
      dsimp only at hw5'
      subst hw5'
      have HB1 := Lib.hid (HB.out.trans (hb5.mono HB.out.size))
      clear hb5 s0 s1 s2 s3 s4 s5 s6 s7 s8 s9 s10 s11 s12 s13 s14 u0 u1 u2 u3 u4 u5 u6 u7 u8 u9 u10 u11 u12 u13 u14
      go_wp2_with fail
      exact ⟨⟨k + 1, by omega, by go_num, HB1.out⟩, by show l.length - ((k : Int) + 1).toNat < l.length - (k : Int).toNat; omega⟩
    · have HB := Lib.hid hB
      clear hB
      go_wp2_with fail
      go_ret
      exact ⟨rfl, HB.out⟩
end Go.Proofs.YtdibkhddhgaghaaDoor.Hs
