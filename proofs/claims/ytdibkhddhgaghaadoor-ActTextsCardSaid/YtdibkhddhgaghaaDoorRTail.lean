/- The walks of the reference of the package digit: tail, Show, Print (by hand; no printed text). -/
import Derived.Test.YtdibkhddhgaghaaDoorDigitPure
import Derived.Test.YtdibkhddhgaghaaDoorRoundReg
import Derived.WalkKit
import Derived.Lib.Hide
import Derived.Lib.Walk
import Derived.Below
import Derived.IntWalk
import Derived.WideShapes
import Derived.WalkLawsBesides
import Derived.KernelRfl
import Derived.Outline
import Derived.Test.YtdibkhddhgaghaaDoorProg
namespace Go.Proofs.YtdibkhddhgaghaaDoor.DgT
open Go.RowKit
set_option linter.unusedVariables false
set_option linter.unusedSimpArgs false
theorem wrap_u64_ (n : Int) : IntKind.u64.wrap n = n % 18446744073709551616 := by simp [IntKind.wrap, IntKind.bits, IntKind.signed]
theorem till_reg {P : Program} {ops : Array Oper} {Q : Exit → Act → World → Prop} {id : Nat} {a : Act} {w : World} (T S : World → Prop) (s1 : Nat) (hm : P.follows .mixedOrders = true) (h : Rr.wpTill P .any ops Q T S s1 ops.size (Array.replicate ops.size false) a w.drew) : (Code.region id ops true).wp P Q a w := wp_region_any hm (Rr.any_of_till _ _ _ _ h)
theorem cell_of1 {w : World} {g : Nat} {cs : Array Value} {T : TypeId} {f : Nat × Nat} (h : w.heap[g]? = some (.cells cs T f)) (i : Nat) : w.cell? ⟨g, i, none⟩ = cs[i]? := by
  simp [World.cell?, h]
/-- A text of one byte. -/
def oneB (n : Nat) : ByteArray := ⟨#[UInt8.ofNat n]⟩
theorem conv1 (w : World) (b : Nat) (z : Int) (n : Nat) (hz : z = n) (hn : n < 256) (h : w.heap[b]? = some (.cells #[.int .u8 z] 5 (0, 0))) :
    (convert 89 9 (.slice (some ⟨b, 0, none⟩) 1 1)).run Tryd.prog w = .ok (.string (oneB n)) w :=
  run_convert_bytes_back w 89 9 5 ⟨b, 0, none⟩ 1 [UInt8.ofNat n] Tryd.underlying89 Tryd.underlying5 Tryd.underlying9 (fun j hj => by
    obtain rfl : j = 0 := by simpa using hj
    show w.cell? ⟨b, 0, none⟩ = some (.int .u8 ((UInt8.ofNat n).toNat : Int))
    rw [cell_of1 h, UInt8.toNat_ofNat_of_lt' (by show _ < 256; omega), hz]
    rfl)
set_option maxRecDepth 100000 in
set_option maxHeartbeats 8000000 in
theorem tail_any (d : Nat) : ∀ (u : Nat), u < 10 ^ (d + 1) → u < 18446744073709551616 → ∀ w, Calls Tryd.prog 88 #[.int .u64 (u : Int)] w fun e w' => e = .returned (.string ⟨(Lib.decDigits u).toArray⟩) ∧ Below w.heap.size w w' := by
  have base : ∀ (u : Nat), u < 10 → ∀ w, Calls Tryd.prog 88 #[.int .u64 (u : Int)] w fun e w' => e = .returned (.string ⟨(Lib.decDigits u).toArray⟩) ∧ Below w.heap.size w w' := by
    intro u h10 w
    have b : decide ((u : Int) < 10) = true := decide_eq_true (by omega)
    have HD := Lib.hid (show (⟨(Lib.decDigits u).toArray⟩ : ByteArray) = oneB (48 + u) by rw [Dg.dec_small h10]; rfl)
    go_enter Tryd.func88, Tryd.ntmps88
    go_wp2_with fail
    rw [conv1 _ w.heap.size (48 + (u : Int)) (48 + u) (by omega) (by omega) (heap_alloc_new w _)]
    go_wp2_with fail
    go_ret
    exact ⟨by rw [HD.out]; rfl, (Below.refl _ _).alloc (Nat.le_refl _) _⟩
  induction d with
  | zero => exact fun u hu _ w => base u (by simpa using hu) w
  | succ d ih =>
    intro u hu h64 w
    by_cases h10 : u < 10
    · exact base u h10 w
    · have b : decide ((u : Int) < 10) = false := decide_eq_false (by omega)
      have IH := Lib.hid (fun (z : Int) (hz : z = ((u / 10 : Nat) : Int)) w => (show Calls Tryd.prog 88 #[.int .u64 z] w fun e w' => e = .returned (.string ⟨(Lib.decDigits (u / 10)).toArray⟩) ∧ Below w.heap.size w w' by subst hz; exact ih (u / 10) (by rw [Nat.pow_succ] at hu; omega) (by omega) w))
      have EQ := Lib.hid (show IntKind.u64.wrap ((u : Int) / 10) = ((u / 10 : Nat) : Int) by rw [wrap_u64_]; omega)
      have E8 := Lib.hid (show IntKind.u8.wrap (IntKind.u64.wrap (48 + Int.tmod (u : Int) 10)) = ((48 + u % 10 : Nat) : Int) by rw [Int.tmod_eq_emod_of_nonneg (by omega), wrap_u64_]; simp only [IntKind.wrap, IntKind.bits, IntKind.signed]; simp; omega)
      have hdl : (⟨(Lib.decDigits (u / 10)).toArray⟩ : ByteArray).size ≤ 20 := by
        show (Lib.decDigits (u / 10)).toArray.size ≤ 20
        rw [List.size_toArray]
        exact Dg.dec_len 20 (u / 10) (by omega) (by omega)
      have HE := Lib.hid (show (⟨(Lib.decDigits u).toArray⟩ : ByteArray) = ⟨(Lib.decDigits (u / 10)).toArray⟩ ++ oneB (48 + u % 10) by
        rw [Dg.dec_big h10]
        apply WideShapes.bytes_inj
        rw [ByteArray.data_append]
        simp [oneB])
      have HL := Lib.hid (show (⟨(Lib.decDigits (u / 10)).toArray⟩ : ByteArray).size + (oneB (48 + u % 10)).size ≤ 9223372036854775807 by have : (oneB (48 + u % 10)).size = 1 := rfl; omega)
      generalize (⟨(Lib.decDigits (u / 10)).toArray⟩ : ByteArray) = pfx at *
      clear hdl
      clear ih base
      go_enter Tryd.func88, Tryd.ntmps88
      go_wp2_with fail
      refine till_reg (fun _ => True) (fun _ => True) 10 (by kernel_rfl) ?_
      refine Rr.take_T 0 (v := ?v0) rfl (by kernel_rfl) (by kernel_rfl) (by kernel_rfl) (by kernel_rfl) (fun _ _ _ h => h) trivial (fun _ => trivial) (Or.inl ⟨by rfl, ?y0⟩) ?z0
      case y0 =>
        intro wz hz
        go_simp
        try with_reducible rfl
      case z0 =>
      try simp only [Act.put, List.setIfInBounds_toArray, List.set_cons_zero, List.set_cons_succ]
      refine Rr.take_T 1 (v := ?v1) rfl (by kernel_rfl) (by kernel_rfl) (by kernel_rfl) (by kernel_rfl) (fun _ _ _ h => h) trivial (fun _ => trivial) (Or.inl ⟨by rfl, ?y1⟩) ?z1
      case y1 =>
        intro wz hz
        go_simp
        try with_reducible rfl
      case z1 =>
      try simp only [Act.put, List.setIfInBounds_toArray, List.set_cons_zero, List.set_cons_succ]
      refine Rr.take_T 3 (v := ?v3) rfl (by kernel_rfl) (by kernel_rfl) (by kernel_rfl) (by kernel_rfl) (fun _ _ _ h => h) trivial (fun _ => trivial) (Or.inl ⟨by rfl, ?y3⟩) ?z3
      case y3 =>
        intro wz hz
        go_simp
        try with_reducible rfl
      case z3 =>
      try simp only [Act.put, List.setIfInBounds_toArray, List.set_cons_zero, List.set_cons_succ]
      refine Rr.take_T 4 (v := ?v4) rfl (by kernel_rfl) (by kernel_rfl) (by kernel_rfl) (by kernel_rfl) (fun _ _ _ h => h) trivial (fun _ => trivial) (Or.inl ⟨by rfl, ?y4⟩) ?z4
      case y4 =>
        intro wz hz
        go_simp
        try with_reducible rfl
      case z4 =>
      try simp only [Act.put, List.setIfInBounds_toArray, List.set_cons_zero, List.set_cons_succ]
      refine Rr.take_T 5 (v := ?v5) rfl (by kernel_rfl) (by kernel_rfl) (by kernel_rfl) (by kernel_rfl) (fun _ _ _ h => h) trivial (fun _ => trivial) (Or.inl ⟨by rfl, ?y5⟩) ?z5
      case y5 =>
        intro wz hz
        go_simp
        try with_reducible rfl
      case z5 =>
      try simp only [Act.put, List.setIfInBounds_toArray, List.set_cons_zero, List.set_cons_succ]
      refine Rr.take_T 6 (v := ?v6) rfl (by kernel_rfl) (by kernel_rfl) (by kernel_rfl) (by kernel_rfl) (fun _ _ _ h => h) trivial (fun _ => trivial) (Or.inl ⟨by rfl, ?y6⟩) ?z6
      case y6 =>
        intro wz hz
        go_simp
        try with_reducible rfl
      case z6 =>
      try simp only [Act.put, List.setIfInBounds_toArray, List.set_cons_zero, List.set_cons_succ]
      refine Rr.till_all [2, 7] (by kernel_rfl) (by simp) (List.forall_mem_cons.2 ⟨fun K hK => ?_, List.forall_mem_cons.2 ⟨fun K hK => ?_, fun i hi => by cases hi⟩⟩)
      · refine Rr.op_at _ rfl ?_
        go_simp
        rw [EQ.out]
        refine (IH.out _ rfl w.drew).mono ?_
        rintro e w6 ⟨rfl, hb6⟩
        have HB6 := Lib.hid hb6
        refine hK _ _ trivial (fun _ => trivial) ?_
        clear hK K hb6
        try simp only [Act.put, List.setIfInBounds_toArray, List.set_cons_zero, List.set_cons_succ]
        refine Rr.till_all [7] (by kernel_rfl) (by simp) (List.forall_mem_cons.2 ⟨fun K hK => ?_, fun i hi => by cases hi⟩)
        refine Rr.op_at _ rfl ?_
        go_simp
        refine hK _ _ trivial (fun _ => trivial) ?_
        clear hK K
        try simp only [Act.put, List.setIfInBounds_toArray, List.set_cons_zero, List.set_cons_succ]
        refine Rr.till_all [8] (by kernel_rfl) (by simp) (List.forall_mem_cons.2 ⟨fun K hK => ?_, fun i hi => by cases hi⟩)
        refine Rr.op_at _ rfl ?_
        go_simp
        rw [conv1 _ w6.heap.size (IntKind.u8.wrap (IntKind.u64.wrap (48 + Int.tmod (u : Int) 10))) (48 + u % 10) E8.out (by omega) (heap_alloc_new w6 _)]
        go_simp
        refine hK _ _ trivial (fun _ => trivial) ?_
        clear hK K
        try simp only [Act.put, List.setIfInBounds_toArray, List.set_cons_zero, List.set_cons_succ]
        refine Rr.till_all [9] (by kernel_rfl) (by simp) (List.forall_mem_cons.2 ⟨fun K hK => ?_, fun i hi => by cases hi⟩)
        refine Rr.op_at _ rfl ?_
        go_simp
        rw [if_neg (Nat.not_lt.2 HL.out)]
        go_simp
        refine hK _ _ trivial (fun _ => trivial) ?_
        clear hK K
        try simp only [Act.put, List.setIfInBounds_toArray, List.set_cons_zero, List.set_cons_succ]
        refine Rr.till_all [10] (by kernel_rfl) (by simp) (List.forall_mem_cons.2 ⟨fun K hK => ?_, fun i hi => by cases hi⟩)
        refine Rr.op_at _ rfl ?_
        go_simp
        refine hK _ _ trivial (fun _ => trivial) ?_
        clear hK K
        try simp only [Act.put, List.setIfInBounds_toArray, List.set_cons_zero, List.set_cons_succ]
        refine Rr.till_done (by kernel_rfl) ?_ _
        go_wp2_with fail
        go_ret
        exact ⟨by rw [HE.out]; rfl, (((Below.refl _ _).drew).trans HB6.out).alloc HB6.out.size _⟩
      · refine Rr.op_at _ rfl ?_
        go_simp
        refine hK _ _ trivial (fun _ => trivial) ?_
        clear hK K
        try simp only [Act.put, List.setIfInBounds_toArray, List.set_cons_zero, List.set_cons_succ]
        refine Rr.till_all [2, 8] (by kernel_rfl) (by simp) (List.forall_mem_cons.2 ⟨fun K hK => ?_, List.forall_mem_cons.2 ⟨fun K hK => ?_, fun i hi => by cases hi⟩⟩)
        · refine Rr.op_at _ rfl ?_
          go_simp
          rw [EQ.out]
          refine (IH.out _ rfl ((w.alloc (.cells #[.int .u8 (IntKind.u8.wrap (IntKind.u64.wrap (48 + Int.tmod (u : Int) 10)))] 5)).drew)).mono ?_
          rintro e w6 ⟨rfl, hb6⟩
          have HB6 := Lib.hid hb6
          refine hK _ _ trivial (fun _ => trivial) ?_
          clear hK K hb6
          try simp only [Act.put, List.setIfInBounds_toArray, List.set_cons_zero, List.set_cons_succ]
          refine Rr.till_all [8] (by kernel_rfl) (by simp) (List.forall_mem_cons.2 ⟨fun K hK => ?_, fun i hi => by cases hi⟩)
          refine Rr.op_at _ rfl ?_
          go_simp
          rw [conv1 _ w.heap.size (IntKind.u8.wrap (IntKind.u64.wrap (48 + Int.tmod (u : Int) 10))) (48 + u % 10) E8.out (by omega) ((HB6.out.block w.heap.size (by simp)).trans (heap_alloc_new w.drew _))]
          go_simp
          refine hK _ _ trivial (fun _ => trivial) ?_
          clear hK K
          try simp only [Act.put, List.setIfInBounds_toArray, List.set_cons_zero, List.set_cons_succ]
          refine Rr.till_all [9] (by kernel_rfl) (by simp) (List.forall_mem_cons.2 ⟨fun K hK => ?_, fun i hi => by cases hi⟩)
          refine Rr.op_at _ rfl ?_
          go_simp
          rw [if_neg (Nat.not_lt.2 HL.out)]
          go_simp
          refine hK _ _ trivial (fun _ => trivial) ?_
          clear hK K
          try simp only [Act.put, List.setIfInBounds_toArray, List.set_cons_zero, List.set_cons_succ]
          refine Rr.till_all [10] (by kernel_rfl) (by simp) (List.forall_mem_cons.2 ⟨fun K hK => ?_, fun i hi => by cases hi⟩)
          refine Rr.op_at _ rfl ?_
          go_simp
          refine hK _ _ trivial (fun _ => trivial) ?_
          clear hK K
          try simp only [Act.put, List.setIfInBounds_toArray, List.set_cons_zero, List.set_cons_succ]
          refine Rr.till_done (by kernel_rfl) ?_ _
          go_wp2_with fail
          go_ret
          exact ⟨by rw [HE.out]; rfl, (((Below.refl _ _).drew).alloc (Nat.le_refl _) _).trans (HB6.out.mono (by simp))⟩
        · refine Rr.op_at _ rfl ?_
          go_simp
          rw [conv1 (w.alloc (.cells #[.int .u8 (IntKind.u8.wrap (IntKind.u64.wrap (48 + Int.tmod (u : Int) 10)))] 5)).drew w.heap.size (IntKind.u8.wrap (IntKind.u64.wrap (48 + Int.tmod (u : Int) 10))) (48 + u % 10) E8.out (by omega) (heap_alloc_new w _)]
          go_simp
          refine hK _ _ trivial (fun _ => trivial) ?_
          clear hK K
          try simp only [Act.put, List.setIfInBounds_toArray, List.set_cons_zero, List.set_cons_succ]
          refine Rr.till_all [2] (by kernel_rfl) (by simp) (List.forall_mem_cons.2 ⟨fun K hK => ?_, fun i hi => by cases hi⟩)
          refine Rr.op_at _ rfl ?_
          go_simp
          rw [EQ.out]
          refine (IH.out _ rfl ((w.alloc (.cells #[.int .u8 (IntKind.u8.wrap (IntKind.u64.wrap (48 + Int.tmod (u : Int) 10)))] 5)).drew)).mono ?_
          rintro e w6 ⟨rfl, hb6⟩
          have HB6 := Lib.hid hb6
          refine hK _ _ trivial (fun _ => trivial) ?_
          clear hK K hb6
          try simp only [Act.put, List.setIfInBounds_toArray, List.set_cons_zero, List.set_cons_succ]
          refine Rr.till_all [9] (by kernel_rfl) (by simp) (List.forall_mem_cons.2 ⟨fun K hK => ?_, fun i hi => by cases hi⟩)
          refine Rr.op_at _ rfl ?_
          go_simp
          rw [if_neg (Nat.not_lt.2 HL.out)]
          go_simp
          refine hK _ _ trivial (fun _ => trivial) ?_
          clear hK K
          try simp only [Act.put, List.setIfInBounds_toArray, List.set_cons_zero, List.set_cons_succ]
          refine Rr.till_all [10] (by kernel_rfl) (by simp) (List.forall_mem_cons.2 ⟨fun K hK => ?_, fun i hi => by cases hi⟩)
          refine Rr.op_at _ rfl ?_
          go_simp
          refine hK _ _ trivial (fun _ => trivial) ?_
          clear hK K
          try simp only [Act.put, List.setIfInBounds_toArray, List.set_cons_zero, List.set_cons_succ]
          refine Rr.till_done (by kernel_rfl) ?_ _
          go_wp2_with fail
          go_ret
          exact ⟨by rw [HE.out]; rfl, (((Below.refl _ _).drew).alloc (Nat.le_refl _) _).trans (HB6.out.mono (by simp))⟩
theorem tail_all (u : Nat) (h : u < 18446744073709551616) (w : World) : Calls Tryd.prog 88 #[.int .u64 u] w fun e w' => e = .returned (.string ⟨(Lib.decDigits u).toArray⟩) ∧ Below w.heap.size w w' := tail_any 20 u (by omega) h w
set_option maxHeartbeats 1000000 in
theorem show_any (u : Nat) (h : u < 18446744073709551616) (w : World) : Calls Tryd.prog 50 #[.int .u64 u] w fun e w' => e = .returned (.string ⟨(Lib.decDigits u).toArray⟩) ∧ Below w.heap.size w w' := by
  go_enter Tryd.func50, Tryd.ntmps50
  go_wp2_with fail
  refine (tail_all u h _).mono ?_
  rintro e w1 ⟨rfl, hb⟩
  have HB := Lib.hid hb
  clear hb
  go_wp2
  go_ret
  exact ⟨rfl, HB.out⟩
theorem tail_int (z : Int) (u : Nat) (hz : z = u) (h : u < 18446744073709551616) (w : World) : Calls Tryd.prog 88 #[.int .u64 z] w fun e w' => e = .returned (.string ⟨(Lib.decDigits u).toArray⟩) ∧ Below w.heap.size w w' := by
  subst hz; exact tail_all u h w
set_option maxHeartbeats 1000000 in
theorem print_any (n : Int) (h0 : -9223372036854775808 ≤ n) (h1 : n ≤ 9223372036854775807) (w : World) : Calls Tryd.prog 51 #[.int .i64 n] w fun e w' => e = .returned (.string ⟨(Lib.itoa n).toArray⟩) ∧ Below w.heap.size w w' := by
  by_cases hn : n < 0
  · have E := Lib.hid (show (⟨#[45]⟩ : ByteArray) ++ ⟨(Lib.decDigits n.natAbs).toArray⟩ = ⟨(Lib.itoa n).toArray⟩ by
      apply WideShapes.bytes_inj
      unfold Lib.itoa
      rw [if_pos hn, ByteArray.data_append]; simp)
    have hl : (⟨(Lib.decDigits n.natAbs).toArray⟩ : ByteArray).size ≤ 20 := by
      show (Lib.decDigits n.natAbs).toArray.size ≤ 20
      rw [List.size_toArray]
      exact Dg.dec_len 20 n.natAbs (by omega) (by omega)
    have hl2 : (Lib.decDigits n.natAbs).length ≤ 20 := Dg.dec_len 20 n.natAbs (by omega) (by omega)
    have hl3 : 1 + (⟨(Lib.decDigits n.natAbs).toArray⟩ : ByteArray).size ≤ 9223372036854775807 := by omega
    have TL := fun (z : Int) (hz : z = (n.natAbs : Nat)) w => tail_int z n.natAbs hz (by omega) w
    generalize (⟨(Lib.decDigits n.natAbs).toArray⟩ : ByteArray) = p at *
    have TL := Lib.hid TL
    go_enter Tryd.func51, Tryd.ntmps51
    go_wp2_with fail
    refine (TL.out _ (by first | omega | (simp only [wrap64, wrap_u64_, IntKind.wrap_i64]; omega)) _).mono ?_
    rintro e w1 ⟨rfl, hb⟩
    have HB := Lib.hid hb
    clear hb
    go_wp2
    go_ret
    exact ⟨by rw [← E.out]; rfl, HB.out⟩
  · have E := Lib.hid (show Lib.decDigits n.toNat = Lib.itoa n by unfold Lib.itoa; rw [if_neg hn])
    go_enter Tryd.func51, Tryd.ntmps51
    go_wp2_with fail
    refine (tail_int _ n.toNat (by first | omega | (simp only [wrap64, wrap_u64_, IntKind.wrap_i64]; omega)) (by omega) _).mono ?_
    rintro e w1 ⟨rfl, hb⟩
    have HB := Lib.hid hb
    clear hb
    go_wp2
    go_ret
    exact ⟨by rw [← E.out]; rfl, HB.out⟩
end Go.Proofs.YtdibkhddhgaghaaDoor.DgT
