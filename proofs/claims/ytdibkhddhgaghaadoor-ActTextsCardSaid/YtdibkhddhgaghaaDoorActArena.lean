/- The law's own arena: New(9), Alloc(3), Store and Load of its one block. -/
import Derived.Outline
import Derived.Test.YtdibkhddhgaghaaDoorActReadR
import Derived.Test.YtdibkhddhgaghaaDoorBelowQuiet
import Derived.WideMake
import Derived.Carry
import Derived.Deep.OwnRows
namespace Go.Proofs.YtdibkhddhgaghaaDoor.Ac
open Go.RowKit
set_option linter.unusedVariables false
set_option linter.unusedSimpArgs false
set_option maxRecDepth 100000
set_option maxHeartbeats 4000000
/-- An arena of nine cells without a fault. -/
structure Ar (W : World) (g m : Nat) (used last : Int) (es : Array MapEntry) (ck : Nat) : Prop where
  g : W.heap[g]? = some (.cells #[.int .i64 9, .int .i64 used, .int .i64 0, .int .u64 last, .map (some m)] 121 (0, 0))
  m : W.heap[m]? = some (.map es ck)
theorem new9 (w : World) : Calls Tryd.prog 37 #[.int .i64 9] w fun e w' => e = .returned (.pointer (some ⟨w.heap.size + 1, 0, none⟩)) ∧ w' = (w.alloc (.map #[] 0)).alloc (.cells #[.int .i64 9, .int .i64 0, .int .i64 0, .int .u64 0, .map (some w.heap.size)] 121) := by
  have hmm := @run_makeMap Tryd.prog
  go_enter Tryd.func37, Tryd.ntmps37
  go_wp2_with fail
  go_ret
  exact ⟨by simp, rfl⟩
theorem map_nn (m : Nat) (W : World) : (Go.binOp BinOp.eql 119 (Value.map (some m)) (Value.map none)).run Tryd.prog W = .ok (.bool false) W := by kernel_rfl
theorem none_any {W : World} {g m : Nat} {u l : Int} {es : Array MapEntry} {ck : Nat} (h : Ar W g m u l es ck) : Calls Tryd.prog 111 #[.pointer (some ⟨g, 0, none⟩)] W fun e w' => e = .returned (.bool false) ∧ w' = W := by
  have x4 : W.cell? ⟨g, 4, none⟩ = some (.map (some m)) := cell_of1' h.g 4
  have hg := lt_of_block h.g
  have hmn := map_nn m
  clear h
  go_enter Tryd.func111, Tryd.ntmps111
  go_wp2_with fail
  go_ret
  exact ⟨rfl, rfl⟩
theorem look_one {W : World} {m s : Nat} {ck : Nat} (h : W.heap[m]? = some (.map #[{ key := .int .u64 1, val := .slice (some ⟨s, 0, none⟩) 3 3, born := 0 }] ck)) :
    (Instr.lookup 119 (.map (some m)) (.int .u64 1) true).run Tryd.prog W = .ok (.tuple #[.slice (some ⟨s, 0, none⟩) 3 3, .bool true]) W := by
  have hc : (Instr.checkKey false 10000 22 (.int .u64 1)).run Tryd.prog W = .ok () W := MapKept.run_checkKey (d := .int .u64) Tryd.underlying22 (by simp [MapKept.IsKey]) false 9999
  have hf : Instr.findNow (.int .u64) (.int .u64 1) [({ key := .int .u64 1, val := .slice (some ⟨s, 0, none⟩) 3 3, born := 0 } : MapEntry)] 0 = some (some (0, .slice (some ⟨s, 0, none⟩) 3 3)) := rfl
  simp [Instr.lookup, run_underlying Tryd.underlying119, MapKept.run_getObj_map h, hc, MapKept.run_findKey Tryd.underlying22 hf, Result.andThen]
theorem upd_first {W : World} {m ck : Nat} (v : Value) (h : W.heap[m]? = some (.map #[] ck)) :
    (Instr.mapUpdate 119 (.map (some m)) (.int .u64 1) v).run Tryd.prog W = .ok () { W with heap := W.heap.setIfInBounds m (.map #[{ key := .int .u64 1, val := v, born := ck }] (ck + 1)) } := by
  have hf : Instr.findNow (.int .u64) (.int .u64 1) ([] : List MapEntry) 0 = some none := rfl
  have hc : (Instr.checkKey false 10000 22 (.int .u64 1)).run Tryd.prog W = .ok () W := MapKept.run_checkKey (d := .int .u64) Tryd.underlying22 (by simp [MapKept.IsKey]) false 9999
  simp [Instr.mapUpdate, run_underlying Tryd.underlying119, MapKept.run_getObj_map h, hc, MapKept.run_findKey Tryd.underlying22 hf, MapKept.run_setObj_map _ h, Result.andThen]
/-- With its one block. -/
structure Ar1 (W : World) (g m s : Nat) (z : Int) : Prop where
  ar : Ar W g m 3 1 #[{ key := .int .u64 1, val := .slice (some ⟨s, 0, none⟩) 3 3, born := 0 }] 1
  sl : W.heap[s]? = some (.cells #[.int .u64 0, .int .u64 0, .int .u64 z] 22 (0, 0))
  gs : g ≠ s
  ms : m ≠ s
theorem cell12 {W : World} {g m s : Nat} {z : Int} (h : Ar1 W g m s z) : Calls Tryd.prog 110 #[.pointer (some ⟨g, 0, none⟩), .int .u64 1, .int .i64 2] W fun e w' => e = .returned (.tuple #[.pointer (some ⟨s, 2, none⟩), .int .i64 0]) ∧ w' = W := by
  have HN := Lib.hid (none_any h.ar)
  have x4 : W.cell? ⟨g, 4, none⟩ = some (.map (some m)) := cell_of1' h.ar.g 4
  have hlk := look_one h.ar.m
  have hg := lt_of_block h.ar.g
  have hs := lt_of_block h.sl
  clear h
  go_enter Tryd.func110, Tryd.ntmps110
  go_wp2_with first | (refine HN.out.mono ?_; rintro e w5 ⟨rfl, rfl⟩)
  refine bodyPost_ret (v := .tuple #[.pointer (some ⟨s, 2, none⟩), .int .i64 0]) (by simp [results, Tryd.results110, go_sem]) rfl ?_
  exact ⟨rfl, rfl⟩
theorem load12 {W : World} {g m s : Nat} {z : Int} (h : Ar1 W g m s z) : Calls Tryd.prog 76 #[.pointer (some ⟨g, 0, none⟩), .int .u64 1, .int .i64 2] W fun e w' => e = .returned (.tuple #[.int .u64 z, .int .i64 0]) ∧ w' = W := by
  have HN := Lib.hid (cell12 h)
  have x2 : W.cell? ⟨s, 2, none⟩ = some (.int .u64 z) := cell_of1' h.sl 2
  have hs := lt_of_block h.sl
  clear h
  go_enter Tryd.func76, Tryd.ntmps76
  go_wp2_with first | (refine HN.out.mono ?_; rintro e w5 ⟨rfl, rfl⟩)
  refine bodyPost_ret (v := .tuple #[.int .u64 z, .int .i64 0]) (by simp [results, Tryd.results76, go_sem]) rfl ?_
  exact ⟨rfl, rfl⟩
theorem store12 {W : World} {g m s : Nat} {z : Int} (h : Ar1 W g m s z) (y : Int) : Calls Tryd.prog 77 #[.pointer (some ⟨g, 0, none⟩), .int .u64 1, .int .i64 2, .int .u64 y] W fun e w' => e = .returned (.int .i64 0) ∧ w' = W.setCell ⟨s, 2, none⟩ (.int .u64 y) := by
  have HN := Lib.hid (cell12 h)
  have x2 : W.cell? ⟨s, 2, none⟩ = some (.int .u64 z) := cell_of1' h.sl 2
  have z2 := froz h.sl 2
  have hs := lt_of_block h.sl
  clear h
  go_enter Tryd.func77, Tryd.ntmps77
  go_wp2_with first | (refine HN.out.mono ?_; rintro e w5 ⟨rfl, rfl⟩)
  go_ret
  exact ⟨rfl, rfl⟩
theorem Ar.below {W W' : World} {g m : Nat} {u l : Int} {es : Array MapEntry} {ck : Nat} (h : Ar W g m u l es ck) (hb : Below W.heap.size W W') : Ar W' g m u l es ck :=
  ⟨(hb.block g (lt_of_block h.g)).trans h.g, (hb.block m (lt_of_block h.m)).trans h.m⟩
theorem mk3 (W : World) : (Instr.makeSlice 78 (.int .i64 3) (.int .i64 3)).run Tryd.prog W = .ok (.slice (some ⟨W.heap.size, 0, none⟩) 3 3) (W.alloc (.cells #[.int .u64 0, .int .u64 0, .int .u64 0] 22)) := by
  have h := run_make_row' (P := Tryd.prog) 78 22 (.int .u64 0) 8 Tryd.underlying78 infoU8 rfl .i64 .i64 3 (by decide) (by decide) W
  have e : madeCells #[.int .u64 0] 3 = #[.int .u64 0, .int .u64 0, .int .u64 0] := by
    unfold madeCells
    rw [show Array.range 3 = #[0, 1, 2] by decide]
    simp
  rw [e] at h
  exact h
theorem alloc3 {W : World} {g m B : Nat} (h : Ar W g m 0 0 #[] 0) (hgm : g ≠ m) (hg : B ≤ g) (hm : B ≤ m) : Calls Tryd.prog 80 #[.pointer (some ⟨g, 0, none⟩), .int .i64 3] W fun e w' => e = .returned (.int .u64 1) ∧ ∃ s, Ar1 w' g m s 0 ∧ Below B W w' ∧ B ≤ s := by
  have HA := Lib.hid h
  have hgl := lt_of_block h.g
  have hml := lt_of_block h.m
  have CB := Lib.hid (fun p : Bq.BelowBy W => Bq.calls_bel_same (p := p) (none_any (h.below p.hb)))
  have x0 : ∀ p : Bq.BelowBy W, p.w.cell? ⟨g, 0, none⟩ = some (.int .i64 9) := fun p => cell_of1' (h.below p.hb).g 0
  have x1 : ∀ p : Bq.BelowBy W, p.w.cell? ⟨g, 1, none⟩ = some (.int .i64 0) := fun p => cell_of1' (h.below p.hb).g 1
  clear h
  go_enter Tryd.func80, Tryd.ntmps80
  go_wp2_with fail
  refine Bq.wp_region_bel (by kernel_rfl) (by kernel_rfl) ?_
  repeat (quiet_step ((go_at_call 111; exact CB.out _)))
  refine wpQuiet_nil ?_
  intro w5 hw5
  have hb5 : Below W.heap.size W w5 := by obtain ⟨p, rfl⟩ := hw5; exact p.hb
  clear hw5
  have HA5 := Lib.hid (HA.out.below hb5)
  have HB5 := Lib.hid (show Below B W w5 from hb5.mono (by omega))
  have hs5 := hb5.size
  clear hb5 x0 x1 CB
  have y1 : w5.cell? ⟨g, 1, none⟩ = some (.int .i64 0) := cell_of1' HA5.out.g 1
  have y3 : w5.cell? ⟨g, 3, none⟩ = some (.int .u64 0) := cell_of1' HA5.out.g 3
  have z1 := froz HA5.out.g 1
  have z3 := froz HA5.out.g 3
  have hgl5 : g < w5.heap.size := by omega
  go_wp2_with fail
  obtain ⟨w7, hw7⟩ : ∃ x, x = ((w5.setCell ⟨g, 3, none⟩ (.int .u64 1)).setCell ⟨g, 1, none⟩ (.int .i64 3)) := ⟨_, rfl⟩
  have HG7 := Lib.hid (show w7.heap[g]? = some (.cells #[.int .i64 9, .int .i64 3, .int .i64 0, .int .u64 1, .map (some m)] 121 (0, 0)) from by
    rw [hw7]
    exact setc (setc HA5.out.g 3 (.int .u64 1)) 1 (.int .i64 3))
  have HM7 := Lib.hid (show w7.heap[m]? = some (.map #[] 0) from by
    rw [hw7]
    exact (Below.heap_setCell _ ⟨g, 1, none⟩ _ m (fun e => hgm e.symm)).trans ((Below.heap_setCell _ ⟨g, 3, none⟩ _ m (fun e => hgm e.symm)).trans HA5.out.m))
  have HB7 := Lib.hid (show Below B W w7 from by
    rw [hw7]
    exact (HB5.out.setCell (p := ⟨g, 3, none⟩) hg _).setCell (p := ⟨g, 1, none⟩) hg _)
  rw [← hw7]
  clear hw7 y1 y3 z1 z3 hgl5
  have hgl7 := lt_of_block HG7.out
  have hml7 := lt_of_block HM7.out
  have hT0 : (fun wz : World => wz.heap[g]? = some (.cells #[.int .i64 9, .int .i64 3, .int .i64 0, .int .u64 1, .map (some m)] 121 (0, 0))) w7.drew := HG7.out
  refine till_reg2 (fun wz : World => wz.heap[g]? = some (.cells #[.int .i64 9, .int .i64 3, .int .i64 0, .int .u64 1, .map (some m)] 121 (0, 0))) (fun _ => True) 10 (by kernel_rfl) ?_
  refine Rr.take_T 0 (v := ?v0) rfl (by kernel_rfl) (by kernel_rfl) (by kernel_rfl) (by kernel_rfl) (fun _ _ _ h => h) hT0 (fun _ => trivial) (Or.inl ⟨by rfl, ?y0⟩) ?z0
  case y0 =>
    intro wz hz
    have c3 : wz.cell? ⟨g, 3, none⟩ = some (.int .u64 1) := cell_of1' hz 3
    have c4 : wz.cell? ⟨g, 4, none⟩ = some (.map (some m)) := cell_of1' hz 4
    go_simp
    try with_reducible rfl
  case z0 =>
  try simp only [Act.put, List.setIfInBounds_toArray, List.set_cons_zero, List.set_cons_succ]
  refine Rr.take_T 1 (v := ?v1) rfl (by kernel_rfl) (by kernel_rfl) (by kernel_rfl) (by kernel_rfl) (fun _ _ _ h => h) hT0 (fun _ => trivial) (Or.inl ⟨by rfl, ?y1⟩) ?z1
  case y1 =>
    intro wz hz
    have c3 : wz.cell? ⟨g, 3, none⟩ = some (.int .u64 1) := cell_of1' hz 3
    have c4 : wz.cell? ⟨g, 4, none⟩ = some (.map (some m)) := cell_of1' hz 4
    go_simp
    try with_reducible rfl
  case z1 =>
  try simp only [Act.put, List.setIfInBounds_toArray, List.set_cons_zero, List.set_cons_succ]
  refine Rr.take_T 2 (v := ?v2) rfl (by kernel_rfl) (by kernel_rfl) (by kernel_rfl) (by kernel_rfl) (fun _ _ _ h => h) hT0 (fun _ => trivial) (Or.inl ⟨by rfl, ?y2⟩) ?z2
  case y2 =>
    intro wz hz
    have c3 : wz.cell? ⟨g, 3, none⟩ = some (.int .u64 1) := cell_of1' hz 3
    have c4 : wz.cell? ⟨g, 4, none⟩ = some (.map (some m)) := cell_of1' hz 4
    go_simp
    try with_reducible rfl
  case z2 =>
  try simp only [Act.put, List.setIfInBounds_toArray, List.set_cons_zero, List.set_cons_succ]
  refine Rr.take_T 3 (v := ?v3) rfl (by kernel_rfl) (by kernel_rfl) (by kernel_rfl) (by kernel_rfl) (fun _ _ _ h => h) hT0 (fun _ => trivial) (Or.inl ⟨by rfl, ?y3⟩) ?z3
  case y3 =>
    intro wz hz
    have c3 : wz.cell? ⟨g, 3, none⟩ = some (.int .u64 1) := cell_of1' hz 3
    have c4 : wz.cell? ⟨g, 4, none⟩ = some (.map (some m)) := cell_of1' hz 4
    go_simp
    try with_reducible rfl
  case z3 =>
  try simp only [Act.put, List.setIfInBounds_toArray, List.set_cons_zero, List.set_cons_succ]
  refine Rr.take_T 4 (v := ?v4) rfl (by kernel_rfl) (by kernel_rfl) (by kernel_rfl) (by kernel_rfl) (fun _ _ _ h => h) hT0 (fun _ => trivial) (Or.inl ⟨by rfl, ?y4⟩) ?z4
  case y4 =>
    intro wz hz
    have c3 : wz.cell? ⟨g, 3, none⟩ = some (.int .u64 1) := cell_of1' hz 3
    have c4 : wz.cell? ⟨g, 4, none⟩ = some (.map (some m)) := cell_of1' hz 4
    go_simp
    try with_reducible rfl
  case z4 =>
  try simp only [Act.put, List.setIfInBounds_toArray, List.set_cons_zero, List.set_cons_succ]
  refine Rr.take_T 5 (v := ?v5) rfl (by kernel_rfl) (by kernel_rfl) (by kernel_rfl) (by kernel_rfl) (fun _ _ _ h => h) hT0 (fun _ => trivial) (Or.inl ⟨by rfl, ?y5⟩) ?z5
  case y5 =>
    intro wz hz
    have c3 : wz.cell? ⟨g, 3, none⟩ = some (.int .u64 1) := cell_of1' hz 3
    have c4 : wz.cell? ⟨g, 4, none⟩ = some (.map (some m)) := cell_of1' hz 4
    go_simp
    try with_reducible rfl
  case z5 =>
  try simp only [Act.put, List.setIfInBounds_toArray, List.set_cons_zero, List.set_cons_succ]
  refine Rr.take_T 6 (v := ?v6) rfl (by kernel_rfl) (by kernel_rfl) (by kernel_rfl) (by kernel_rfl) (fun _ _ _ h => h) hT0 (fun _ => trivial) (Or.inl ⟨by rfl, ?y6⟩) ?z6
  case y6 =>
    intro wz hz
    have c3 : wz.cell? ⟨g, 3, none⟩ = some (.int .u64 1) := cell_of1' hz 3
    have c4 : wz.cell? ⟨g, 4, none⟩ = some (.map (some m)) := cell_of1' hz 4
    go_simp
    try with_reducible rfl
  case z6 =>
  try simp only [Act.put, List.setIfInBounds_toArray, List.set_cons_zero, List.set_cons_succ]
  refine Rr.take_T 7 (v := ?v7) rfl (by kernel_rfl) (by kernel_rfl) (by kernel_rfl) (by kernel_rfl) (fun _ _ _ h => h) hT0 (fun _ => trivial) (Or.inl ⟨by rfl, ?y7⟩) ?z7
  case y7 =>
    intro wz hz
    have c3 : wz.cell? ⟨g, 3, none⟩ = some (.int .u64 1) := cell_of1' hz 3
    have c4 : wz.cell? ⟨g, 4, none⟩ = some (.map (some m)) := cell_of1' hz 4
    go_simp
    try with_reducible rfl
  case z7 =>
  try simp only [Act.put, List.setIfInBounds_toArray, List.set_cons_zero, List.set_cons_succ]
  refine Rr.take_T 8 (v := ?v8) rfl (by kernel_rfl) (by kernel_rfl) (by kernel_rfl) (by kernel_rfl) (fun _ _ _ h => h) hT0 (fun _ => trivial) (Or.inl ⟨by rfl, ?y8⟩) ?z8
  case y8 =>
    intro wz hz
    have c3 : wz.cell? ⟨g, 3, none⟩ = some (.int .u64 1) := cell_of1' hz 3
    have c4 : wz.cell? ⟨g, 4, none⟩ = some (.map (some m)) := cell_of1' hz 4
    go_simp
    try with_reducible rfl
  case z8 =>
  try simp only [Act.put, List.setIfInBounds_toArray, List.set_cons_zero, List.set_cons_succ]
  refine Rr.till_all [9] (by kernel_rfl) (by simp) (List.forall_mem_cons.2 ⟨fun K hK => ?_, fun i hi => by cases hi⟩)
  refine Rr.op_at _ rfl ?_
  go_simp
  have e8 := mk3 w7.drew
  rw [e8]
  obtain ⟨w8, hw8⟩ : ∃ x, x = w7.drew.alloc (.cells #[.int .u64 0, .int .u64 0, .int .u64 0] 22) := ⟨_, rfl⟩
  rw [← hw8]
  have HB78 := Lib.hid (show Below w7.heap.size w7.drew w8 from by rw [hw8]; exact (Below.refl w7.heap.size w7.drew).alloc (Nat.le_refl w7.heap.size) _)
  have HG8 := Lib.hid (show w8.heap[g]? = some (.cells #[.int .i64 9, .int .i64 3, .int .i64 0, .int .u64 1, .map (some m)] 121 (0, 0)) from (HB78.out.block g hgl7).trans HG7.out)
  have HM8 := Lib.hid (show w8.heap[m]? = some (.map #[] 0) from (HB78.out.block m hml7).trans HM7.out)
  have HS8 := Lib.hid (show w8.heap[w7.heap.size]? = some (.cells #[.int .u64 0, .int .u64 0, .int .u64 0] 22 (0, 0)) from by rw [hw8]; exact heap_alloc_new w7.drew _)
  have HB8 := Lib.hid (show Below B W w8 from (HB7.out.drew).trans (HB78.out.mono (by omega)))
  clear hw8 e8
  go_simp
  refine hK _ _ HG8.out (fun _ => trivial) ?_
  clear hK K
  try simp only [Act.put, List.setIfInBounds_toArray, List.set_cons_zero, List.set_cons_succ]
  have hup := upd_first (.slice (some ⟨w7.heap.size, 0, none⟩) 3 3) HM8.out
  obtain ⟨w9, hw9⟩ : ∃ x : World, x = { w8 with heap := w8.heap.setIfInBounds m (.map #[{ key := .int .u64 1, val := .slice (some ⟨w7.heap.size, 0, none⟩) 3 3, born := 0 }] 1) } := ⟨_, rfl⟩
  simp only [Nat.zero_add] at hup
  rw [← hw9] at hup
  have hset := MapKept.heap_set (o' := .map #[{ key := .int .u64 1, val := .slice (some ⟨w7.heap.size, 0, none⟩) 3 3, born := 0 }] 1) HM8.out
  have HG9 := Lib.hid (show w9.heap[g]? = some (.cells #[.int .i64 9, .int .i64 3, .int .i64 0, .int .u64 1, .map (some m)] 121 (0, 0)) from by rw [hw9]; exact (hset.2 g hgm).trans HG8.out)
  have HM9 := Lib.hid (show w9.heap[m]? = some (.map #[{ key := .int .u64 1, val := .slice (some ⟨w7.heap.size, 0, none⟩) 3 3, born := 0 }] 1) from by rw [hw9]; exact hset.1)
  have HS9 := Lib.hid (show w9.heap[w7.heap.size]? = some (.cells #[.int .u64 0, .int .u64 0, .int .u64 0] 22 (0, 0)) from by rw [hw9]; exact (hset.2 _ (by omega)).trans HS8.out)
  have HB9 := Lib.hid (show Below B W w9 from by
    rw [hw9]
    exact HB8.out.trans ⟨rfl, rfl, rfl, by simp, fun k hk => hset.2 k (by omega)⟩)
  clear hw9 hset
  refine Rr.till_all [10] (by kernel_rfl) (by simp) (List.forall_mem_cons.2 ⟨fun K hK => ?_, fun i hi => by cases hi⟩)
  refine Rr.op_at _ rfl ?_
  go_simp
  refine hK _ _ HG9.out (fun _ => trivial) ?_
  clear hK K hup
  try simp only [Act.put, List.setIfInBounds_toArray, List.set_cons_zero, List.set_cons_succ]
  refine Rr.till_done (by kernel_rfl) ?_ _
  clear hT0
  have c3 : w9.cell? ⟨g, 3, none⟩ = some (.int .u64 1) := cell_of1' HG9.out 3
  have hg9 := lt_of_block HG9.out
  go_wp2_with fail
  go_ret
  exact ⟨rfl, w7.heap.size, ⟨⟨HG9.out, HM9.out⟩, HS9.out, by omega, by omega⟩, HB9.out, by omega⟩
end Go.Proofs.YtdibkhddhgaghaaDoor.Ac
