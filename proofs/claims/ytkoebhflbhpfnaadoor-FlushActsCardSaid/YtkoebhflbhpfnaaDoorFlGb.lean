/- flush: the small functions of tags, desks and tables, as values. flush: the small functions that leave the world as it was. A region that draws its order, whose operations read and whose callees may make memory: one walk, over all worlds that keep what was there. flush: the sweeper's walks. flush: the sweeper takes an answer. flush: the sweeper takes an answer, part by part. (printed by gen_flushtake.py) -/
import Derived.Test.YtkoebhflbhpfnaaDoorFlGa
import Derived.Test.YtkoebhflbhpfnaaDoorPTakex1
import Derived.Test.YtkoebhflbhpfnaaDoorPActx1
import Derived.Test.YtkoebhflbhpfnaaDoorPBoxCellx1
import Derived.Laws.BitsLemmas
import Derived.Lib.Hide
import Derived.Lib.Walk
import Derived.WalkKit
import Derived.WalkLawsBesides
import Derived.Deep.QuietTactic
import Derived.Below
import Derived.StillTailTactics
import Derived.IntWalk
import Derived.Laws.ResultCell
import Derived.Laws.Rows
import Derived.RegionTactic
import Derived.Deep.RegionHeld3
import Derived.WalkMore
import Derived.ScopeJumps
namespace Go.Proofs.YtkoebhflbhpfnaaDoor.Fl
open Go.RowKit Go.Proofs.YtkoebhflbhpfnaaDoorW.PrintWords Go.Proofs.YtkoebhflbhpfnaaDoorW.PrintLast Go.Proofs.YtkoebhflbhpfnaaDoorW.PrintMore
set_option linter.unusedVariables false
set_option linter.unusedSimpArgs false
theorem w64' {z : Int} (h : -9223372036854775808 ≤ z) (h' : z < 9223372036854775808) : wrap64 z = z := by unfold wrap64; omega
theorem u64w' {z : Int} (h : 0 ≤ z) (h' : z < 18446744073709551616) : IntKind.u64.wrap z = z := by
  simp [IntKind.wrap, IntKind.signed, IntKind.bits]
  omega
theorem and7 {g : Int} (h : 0 ≤ g) (h' : g < 18446744073709551616) : Go.bits .and .u64 g 7 = g % 8 := bits_mask .u64 64 (by decide) (fun n a b => u64w' a (by simpa using b)) 3 (by decide) g h (by simpa using h')
theorem block_c (o : Int) (w : World) : Calls Tryd.prog 25 #[.int .u64 o] w fun e w' => e = .returned (.int .u64 (blk o)) ∧ ∃ n, w' = w.drewN n :=
  (PAct.tag_Block.calls o _ w rfl).mono fun e w' ⟨he, n, hn⟩ => ⟨he, n, hn⟩
theorem mark_c {g : Int} (h : 0 ≤ g) (h' : g < 18446744073709551616) (w : World) : Calls Tryd.prog 31 #[.int .u64 g] w fun e w' => e = .returned (.int .i64 (mrk g)) ∧ ∃ n, w' = w.drewN n :=
  (PTake.tag_Mark.calls g (mrk g) w (by unfold PTake.tag_Mark.f mrk; rw [and7 h h', w64' (by omega) (by omega)])).mono fun e w' ⟨he, n, hn⟩ => ⟨he, n, hn⟩
theorem holds_c {g : Int} (h : 0 ≤ g) (h' : g < 18446744073709551616) (w : World) : Calls Tryd.prog 50 #[.int .u64 g] w fun e w' => e = .returned (.bool (hld g)) ∧ Below w.heap.size w w' :=
  PTake.tag_Holds.calls g (hld g) w (by
    unfold PTake.tag_Holds.f PTake.tag_Of.f hld
    rw [and7 h h', w64' (by omega) (by omega)]
    simp only [Option.bind_some]
    by_cases h1 : 8 ≤ g
    · rw [if_neg (by omega)]
      by_cases h2 : 1 ≤ g % 8
      · rw [if_pos (by omega)]; simp [h1, h2]
      · rw [if_neg (by omega)]; simp [h2]
    · rw [if_pos (by omega)]; simp [h1])
theorem make_v {b m : Int} (h : 0 ≤ b) (h' : b < 2305843009213693952) (hm : Go.bits .and .i64 m 7 = m) (h0 : 0 ≤ m) (h7 : m ≤ 7) : PAct.tag_Make.f b m = some (mk b m) := by
  unfold PAct.tag_Make.f mk
  rw [hm, u64w' (z := b * 8) (by omega) (by omega), u64w' (z := m) (by omega) (by omega)]
  have : b * 8 + m = 8 * b + m := by omega
  rw [this, u64w' (by omega) (by omega), Int.emod_eq_of_lt (by omega) (by omega)]
theorem and_0 : Go.bits .and .i64 0 7 = 0 := by kernel_rfl
theorem and_1 : Go.bits .and .i64 1 7 = 1 := by kernel_rfl
theorem make_c {b : Int} (h : 0 ≤ b) (h' : b < 2305843009213693952) (w : World) : Calls Tryd.prog 29 #[.int .u64 b, .int .i64 0] w fun e w' => e = .returned (.int .u64 (mk b 0)) ∧ ∃ n, w' = w.drewN n :=
  (PAct.tag_Make.calls b 0 _ w (make_v h h' and_0 (by omega) (by omega))).mono fun e w' ⟨he, n, hn⟩ => ⟨he, n, hn⟩
theorem again_c {o : Int} (h : 0 ≤ o) (h' : o < 18446744073709551616) (w : World) : Calls Tryd.prog 26 #[.int .u64 o, .int .i64 1] w fun e w' => e = .returned (.int .u64 (mk (blk o) 1)) ∧ ∃ n, w' = w.drewN n :=
  (PAct.tag_Again.calls o 1 _ w (by
    unfold PAct.tag_Again.f PAct.tag_Block.f
    simp only [Option.bind_some]
    rw [make_v (by omega) (by omega) and_1 (by omega) (by omega)]
    rfl)).mono fun e w' ⟨he, n, hn⟩ => ⟨he, n, hn⟩
theorem table_cell_c {i : Nat} (h : i < 64) (w : World) : Calls Tryd.prog 27 #[.int .i64 i] w fun e w' => e = .returned (.int .i64 (2 + 2 * (i : Int))) ∧ ∃ n, w' = w.drewN n :=
  (PAct.desk_TableCell.calls i _ w (by
    unfold PAct.desk_TableCell.f PAct.desk_cell.f
    rw [if_neg (by omega), if_neg (by omega), w64' (z := 2 * (i : Int)) (by omega) (by omega), w64' (z := 2 + 2 * (i : Int)) (by omega) (by omega), w64' (by omega) (by omega), Int.add_zero]
    rfl)).mono fun e w' ⟨he, n, hn⟩ => ⟨he, n, hn⟩
theorem box_cell_c {i : Nat} (h : i < 64) (w : World) : Calls Tryd.prog 24 #[.int .i64 i] w fun e w' => e = .returned (.int .i64 (3 + 2 * (i : Int))) ∧ ∃ n, w' = w.drewN n :=
  (PBoxCell.desk_BoxCell.calls i _ w (by
    unfold PBoxCell.desk_BoxCell.f PBoxCell.desk_cell.f
    rw [if_neg (by omega), if_neg (by omega), w64' (z := 2 * (i : Int)) (by omega) (by omega), w64' (z := 2 + 2 * (i : Int)) (by omega) (by omega), w64' (by omega) (by omega)]
    show some _ = some _
    congr 1
    omega)).mono fun e w' ⟨he, n, hn⟩ => ⟨he, n, hn⟩
theorem when_c (b : Bool) (x y : Int) (w : World) : Calls Tryd.prog 30 #[.bool b, .int .i64 x, .int .i64 y] w fun e w' => e = .returned (.int .i64 (if b = true then x else y)) ∧ ∃ n, w' = w.drewN n :=
  (PTake.sweep_when.calls b x y _ w (by unfold PTake.sweep_when.f; cases b <;> rfl)).mono fun e w' ⟨he, n, hn⟩ => ⟨he, n, hn⟩
theorem groups_v : ∀ log : Nat, log ≤ 9 → shl .i64 1 (log : Int) = (groups log : Int)
  | 0, _ => by kernel_rfl
  | 1, _ => by kernel_rfl
  | 2, _ => by kernel_rfl
  | 3, _ => by kernel_rfl
  | 4, _ => by kernel_rfl
  | 5, _ => by kernel_rfl
  | 6, _ => by kernel_rfl
  | 7, _ => by kernel_rfl
  | 8, _ => by kernel_rfl
  | 9, _ => by kernel_rfl
theorem groups_f {log : Nat} (h : log ≤ 10) : PAct.route_Groups.f (log : Int) = some (groups log : Int) := by
  unfold PAct.route_Groups.f
  rw [if_neg (by omega)]
  by_cases h9 : log ≤ 9
  · rw [if_neg (by omega), if_pos (by omega), groups_v log h9]
  · rw [if_pos (by omega)]
    unfold groups
    rw [if_neg h9]
    rfl
theorem groups_le' (log : Nat) : groups log ≤ 512 := by
  unfold groups
  split
  · next h => exact Nat.pow_le_pow_right (n := 2) (by omega) h
  · omega
/-- Slot q of group g: where it is, or -1. -/
def slotCell (log g q : Nat) : Int := if g < groups log then 7 + (groups log : Int) + 8 * (g : Int) + (q : Int) else -1
theorem slot_f {log g q : Nat} (h : log ≤ 10) (hg : g < 1000000) (hq : q < 8) : PAct.table_SlotCell.f (log : Int) (g : Int) (q : Int) = some (slotCell log g q) := by
  have hl := groups_le' log
  unfold PAct.table_SlotCell.f PAct.table_GroupCell.f slotCell
  rw [if_neg (by omega), groups_f h]
  simp only [Option.bind_some]
  by_cases hlt : g < groups log
  · rw [if_neg (by omega), if_pos hlt, w64' (z := 7 + (g : Int)) (by omega) (by omega)]
    simp only [Option.bind_some]
    rw [if_neg (by omega), if_neg (by omega), if_neg (by omega), w64' (z := 7 + (g : Int) + (groups log : Int)) (by omega) (by omega), w64' (z := 7 * (g : Int)) (by omega) (by omega), w64' (z := 7 + (g : Int) + (groups log : Int) + 7 * (g : Int)) (by omega) (by omega), w64' (by omega) (by omega)]
    congr 1
    omega
  · rw [if_pos (by omega), if_neg hlt]
    rfl
theorem slot_c {log g q : Nat} (h : log ≤ 10) (hg : g < 1000000) (hq : q < 8) (w : World) : Calls Tryd.prog 28 #[.int .i64 log, .int .i64 g, .int .i64 q] w fun e w' => e = .returned (.int .i64 (slotCell log g q)) ∧ ∃ n, w' = w.drewN n :=
  (PAct.table_SlotCell.calls log g q _ w (slot_f h hg hq)).mono fun e w' ⟨he, n, hn⟩ => ⟨he, n, hn⟩
theorem size_c {log : Nat} (h : log ≤ 10) (w : World) : Calls Tryd.prog 32 #[.int .i64 log] w fun e w' => e = .returned (.int .i64 (if groups log = 0 then 0 else 7 + 9 * (groups log : Int))) ∧ ∃ n, w' = w.drewN n :=
  (PTake.table_Size.calls log _ w (by
    have hl := groups_le' log
    have hf : PTake.route_Groups.f (log : Int) = some (groups log : Int) := groups_f h
    unfold PTake.table_Size.f
    rw [hf]
    simp only [Option.bind_some]
    by_cases h0 : groups log = 0
    · rw [if_pos (by omega), if_pos h0]
    · rw [if_neg (by omega), if_neg h0, w64' (z := 7 + (groups log : Int)) (by omega) (by omega), w64' (z := 8 * (groups log : Int)) (by omega) (by omega), w64' (by omega) (by omega)]
      congr 1
      omega)).mono fun e w' ⟨he, n, hn⟩ => ⟨he, n, hn⟩
end Go.Proofs.YtkoebhflbhpfnaaDoor.Fl
namespace Go.Proofs.YtkoebhflbhpfnaaDoor.Fl
open Go.RowKit Go.Proofs.YtkoebhflbhpfnaaDoorW.PrintWords Go.Proofs.YtkoebhflbhpfnaaDoorW.PrintLast Go.Proofs.YtkoebhflbhpfnaaDoorW.PrintMore
set_option linter.unusedVariables false
set_option linter.unusedSimpArgs false
theorem block_s (o : Int) (w : World) : Calls Tryd.prog 25 #[.int .u64 o] w fun e w' => e = .returned (.int .u64 (blk o)) ∧ w' = w := by
  unfold blk
  go_enter Tryd.func25, Tryd.ntmps25
  go_wp2_with fail
  go_ret
  exact ⟨rfl, rfl⟩
theorem make_s {b m r : Int} (h : PAct.tag_Make.f b m = some r) (w : World) : Calls Tryd.prog 29 #[.int .u64 b, .int .i64 m] w fun e w' => e = .returned (.int .u64 r) ∧ w' = w := by
  unfold PAct.tag_Make.f at h
  cases h
  go_enter Tryd.func29, Tryd.ntmps29
  go_wp2_with fail
  go_ret
  exact ⟨rfl, rfl⟩
theorem again_s {o : Int} (h : 0 ≤ o) (h' : o < 18446744073709551616) (w : World) : Calls Tryd.prog 26 #[.int .u64 o, .int .i64 1] w fun e w' => e = .returned (.int .u64 (mk (blk o) 1)) ∧ w' = w := by
  have HM := Lib.hid (make_s (make_v (b := blk o) (m := 1) (by unfold blk; omega) (by unfold blk; omega) and_1 (by omega) (by omega)) w)
  clear h h'
  go_enter Tryd.func26, Tryd.ntmps26
  go_wp2_with fail
  refine (block_s o w).mono ?_
  rintro e w' ⟨rfl, rfl⟩
  go_wp2_with fail
  refine HM.out.mono ?_
  rintro e w' ⟨rfl, rfl⟩
  go_wp2_with fail
  go_ret
  exact ⟨rfl, rfl⟩
theorem pow_v : ∀ log : Nat, log ≤ 9 → (groups log : Int) = wrap64 ((2 : Int) ^ log)
  | 0, _ => by kernel_rfl
  | 1, _ => by kernel_rfl
  | 2, _ => by kernel_rfl
  | 3, _ => by kernel_rfl
  | 4, _ => by kernel_rfl
  | 5, _ => by kernel_rfl
  | 6, _ => by kernel_rfl
  | 7, _ => by kernel_rfl
  | 8, _ => by kernel_rfl
  | 9, _ => by kernel_rfl
theorem groups_s {log : Nat} (h : log ≤ 10) (w : World) : Calls Tryd.prog 49 #[.int .i64 log] w fun e w' => e = .returned (.int .i64 (groups log)) ∧ w' = w := by
  by_cases h9 : log ≤ 9
  · have hv := pow_v log h9
    rw [hv]
    clear hv
    have hz : ¬ ((log : Int) < 0) := by omega
    have hy : ¬ ((log : Int) > 9) := by omega
    go_enter Tryd.func49, Tryd.ntmps49
    go_wp2_with fail
    go_ret
    exact ⟨rfl, rfl⟩
  · obtain rfl : log = 10 := by omega
    have hv : ((groups 10 : Nat) : Int) = 0 := rfl
    rw [hv]
    clear hv
    go_enter Tryd.func49, Tryd.ntmps49
    go_wp2_with fail
    go_ret
    exact ⟨rfl, rfl⟩
theorem group_cell_s {log g : Nat} (h : log ≤ 9) (hg : g < groups log) (w : World) : Calls Tryd.prog 48 #[.int .i64 log, .int .i64 g] w fun e w' => e = .returned (.int .i64 (7 + (g : Int))) ∧ w' = w := by
  have hl := groups_le' log
  have HG := Lib.hid (groups_s (log := log) (by omega) w)
  have hz : ¬ ((g : Int) < 0) := by omega
  go_enter Tryd.func48, Tryd.ntmps48
  go_wp2_with fail
  refine HG.out.mono ?_
  rintro e w' ⟨rfl, rfl⟩
  have hy : ¬ ((g : Int) ≥ (groups log : Int)) := by omega
  go_wp2_with fail
  go_ret
  exact ⟨rfl, rfl⟩
theorem slot_s {log g q : Nat} (h : log ≤ 9) (hg : g < groups log) (hq : q < 8) (w : World) : Calls Tryd.prog 28 #[.int .i64 log, .int .i64 g, .int .i64 q] w fun e w' => e = .returned (.int .i64 (7 + (groups log : Int) + 8 * (g : Int) + (q : Int))) ∧ w' = w := by
  have hl := groups_le' log
  have HG := Lib.hid (groups_s (log := log) (by omega) w)
  have HC := Lib.hid (group_cell_s h hg w)
  have hsum : 7 + (groups log : Int) + 8 * (g : Int) + (q : Int) = 7 + (g : Int) + (groups log : Int) + 7 * (g : Int) + (q : Int) := by omega
  rw [hsum]
  clear hsum
  go_enter Tryd.func28, Tryd.ntmps28
  go_wp2_with fail
  refine HC.out.mono ?_
  rintro e w' ⟨rfl, rfl⟩
  go_wp2_with fail
  refine HG.out.mono ?_
  rintro e w' ⟨rfl, rfl⟩
  go_wp2_with fail
  go_ret
  exact ⟨rfl, rfl⟩
end Go.Proofs.YtkoebhflbhpfnaaDoor.Fl
namespace Go.Proofs.YtkoebhflbhpfnaaDoor.Bq
open Go Go.RowKit
set_option linter.unusedVariables false
/-- A world that keeps what W has. -/
structure BelowBy (W : World) where
  w : World
  hb : Below W.heap.size W w
instance (W : World) : Nonempty (BelowBy W) := ⟨⟨W, Below.refl _ _⟩⟩
theorem wp_region_bel {P : Program} {id : Nat} {Q : Exit → Act → World → Prop} {a : Act} {w : World} {l : List Oper} (hm : P.follows .mixedOrders = true) (hB : Region.lexB .any l.toArray = true)
    (h : wpQuiet P l.toArray (fun w' => ∃ p : BelowBy w, w' = p.w) (fun a' => ∀ w', (∃ p : BelowBy w, w' = p.w) → Q .normal a' w') l a) : (Code.region id l.toArray true).wp P Q a w :=
  wp_region_quiet (C := fun w' => ∃ p : BelowBy w, w' = p.w) hm hB ⟨⟨w.drew, (Below.refl _ _).drew⟩, rfl⟩ (by simpa using h)
theorem calls_bel {P : Program} {f : FuncId} {args : Array Value} {W : World} {p : BelowBy W} {v : Value} (h : Calls P f args p.w fun e w'' => e = .returned v ∧ Below p.w.heap.size p.w w'') : Calls P f args p.w fun e w'' => e = .returned v ∧ ∃ q : BelowBy W, w'' = q.w :=
  h.mono fun _ w'' ⟨he, hb⟩ => ⟨he, ⟨w'', p.hb.trans (hb.mono p.hb.size)⟩, rfl⟩
theorem calls_bel_same {P : Program} {f : FuncId} {args : Array Value} {W : World} {p : BelowBy W} {v : Value} (h : Calls P f args p.w fun e w'' => e = .returned v ∧ w'' = p.w) : Calls P f args p.w fun e w'' => e = .returned v ∧ ∃ q : BelowBy W, w'' = q.w :=
  h.mono fun _ w'' ⟨he, hw⟩ => ⟨he, p, hw⟩
theorem BelowBy.cell {W : World} (p : BelowBy W) {b o : Nat} {v : Value} (hb : b < W.heap.size) (h : W.cell? ⟨b, o, none⟩ = some v) : p.w.cell? ⟨b, o, none⟩ = some v := (p.hb.cell (p := ⟨b, o, none⟩) hb).trans h
end Go.Proofs.YtkoebhflbhpfnaaDoor.Bq
namespace Go.Proofs.YtkoebhflbhpfnaaDoor.Fl
open Go.RowKit Bq Go.Proofs.YtkoebhflbhpfnaaDoorW.PrintWords Go.Proofs.YtkoebhflbhpfnaaDoorW.PrintLast Go.Proofs.YtkoebhflbhpfnaaDoorW.PrintMore
set_option linter.unusedVariables false
set_option linter.unusedSimpArgs false
/-- A site. -/
structure St where
  th : Int
  ke : Int
  se : Int
def encA (a : Ac) : Value := .agg #[.int .i64 a.k, .int .u64 a.b, .int .i64 a.c, .int .u64 a.o, .int .u64 a.n]
def encO (a : Option Ac) : Value := .tuple #[encA (a.getD Ac.zero), .bool a.isSome]
/-- A sweeper lies at block sb. -/
def SwAt (C : Cf) (t : St) (w : World) (sb : Nat) (s : SS) : Prop :=
  w.heap[sb]? = some (.cells #[.int .u64 C.desk, .int .i64 t.th, .int .i64 C.threads, .int .i64 t.ke, .int .u64 t.se, .int .i64 s.part, .int .u64 s.oldest, .int .i64 s.thread, .int .u64 s.link, .int .i64 s.log, .int .i64 s.slot, .int .u64 s.box, .int .i64 s.freed] 61 (0, 0))
/-- What a sweeper may have. -/
structure SOk (T N : Nat) (s : SS) : Prop where
  part : 1 ≤ s.part ∧ s.part ≤ 12
  old : 0 ≤ s.oldest ∧ s.oldest < 18446744073709551616
  link : 0 ≤ s.link ∧ s.link < 18446744073709551616
  thr : s.thread ≤ T ∧ (s.part = 4 → s.thread < T)
  lg : s.log ≤ 10 ∧ s.slot ≤ 5000 ∧ (s.part = 8 ∨ s.part = 9 → s.log ≤ 9 ∧ s.slot < 8 * groups s.log)
  fr : s.freed ≤ N
theorem SwAt.lt {C : Cf} {t : St} {w : World} {sb : Nat} {s : SS} (h : SwAt C t w sb s) : sb < w.heap.size := (Array.getElem?_eq_some_iff.1 h).1
theorem SwAt.below {C : Cf} {t : St} {w w' : World} {sb : Nat} {s : SS} (h : SwAt C t w sb s) (hb : Below w.heap.size w w') : SwAt C t w' sb s := (hb.block sb h.lt).trans h
theorem below_drewN' (w : World) (n : Nat) : Below w.heap.size w (w.drewN n) := ⟨rfl, rfl, rfl, Nat.le_refl _, fun _ _ => rfl⟩
theorem below_sc {B : Nat} {w w' : World} (h : Below B w w') {g : Nat} (hg : B ≤ g) (i : Nat) (u : Value) : Below B w (w'.setCell ⟨g, i, none⟩ u) :=
  ⟨h.os, h.tape, h.output, by rw [show (w'.setCell ⟨g, i, none⟩ u).heap.size = w'.heap.size by simp [World.setCell]]; exact h.size, fun k hk => (Below.heap_setCell w' ⟨g, i, none⟩ u k (by show k ≠ g; omega)).trans (h.block k hk)⟩
theorem dn' {B : Nat} {w W : World} (h : Below B w W) (n : Nat) : Below B w (W.drewN n) := ⟨h.os, h.tape, h.output, h.size, h.block⟩
theorem cell_of' {w : World} {g : Nat} {cs : Array Value} {T : TypeId} {f : Nat × Nat} (h : w.heap[g]? = some (.cells cs T f)) (i : Nat) : w.cell? ⟨g, i, none⟩ = cs[i]? := by
  simp [World.cell?, h]
theorem frozen_of' {w : World} {g : Nat} {cs : Array Value} {T : TypeId} (h : w.heap[g]? = some (.cells cs T (0, 0))) (i : Nat) : w.frozen? ⟨g, i, none⟩ = false := by
  simp [World.frozen?, h]
theorem set1 {w : World} {b : Nat} {cs : Array Value} {T : TypeId} (h : w.heap[b]? = some (.cells cs T (0, 0))) (i : Nat) (u : Value) : (w.setCell ⟨b, i, none⟩ u).heap[b]? = some (.cells (cs.setIfInBounds i u) T (0, 0)) := by
  simp [World.setCell, Array.getElem?_modify, h]
theorem set5 {w : World} {b : Nat} {a0 a1 a2 a3 a4 : Value} {T : TypeId} (h : w.heap[b]? = some (.cells #[a0, a1, a2, a3, a4] T (0, 0))) (u0 u1 u2 u3 u4 : Value) :
    (((((w.setCell ⟨b, 0, none⟩ u0).setCell ⟨b, 1, none⟩ u1).setCell ⟨b, 2, none⟩ u2).setCell ⟨b, 3, none⟩ u3).setCell ⟨b, 4, none⟩ u4).heap[b]? = some (.cells #[u0, u1, u2, u3, u4] T (0, 0)) := by
  have := set1 (set1 (set1 (set1 (set1 h 0 u0) 1 u1) 2 u2) 3 u3) 4 u4
  simpa using this
theorem drew_heap (X : World) : X.drew.heap = X.heap := rfl
theorem drewN_heap (X : World) (n : Nat) : (X.drewN n).heap = X.heap := rfl
theorem set5d {w : World} {b : Nat} {a0 a1 a2 a3 a4 : Value} {T : TypeId} (h : w.heap[b]? = some (.cells #[a0, a1, a2, a3, a4] T (0, 0))) (u0 u1 u2 u3 u4 : Value) :
    ((((((w.setCell ⟨b, 0, none⟩ u0).setCell ⟨b, 1, none⟩ u1).setCell ⟨b, 2, none⟩ u2).setCell ⟨b, 3, none⟩ u3).setCell ⟨b, 4, none⟩ u4).drew).heap[b]? = some (.cells #[u0, u1, u2, u3, u4] T (0, 0)) := by rw [drew_heap]; exact set5 h u0 u1 u2 u3 u4
theorem ret_act {fn : Func} (hf : fn.results = #[.cell 2 31, .tmp 3]) {w : World} {b : Nat} {cs : Array Value} (h : w.heap[b]? = some (.cells cs 31 (0, 0))) (hcs : cs.size = 5) {tmps : Array Value} (hp : tmps.getD 2 undef = .pointer (some ⟨b, 0, none⟩)) :
    (results fn tmps).run Tryd.prog w = .ok (.tuple #[.agg cs, tmps.getD 3 undef]) w := by
  rw [results_cell_tmp hf, hp]
  have hi : (Tryd.prog.info? 31).map (·.size) = some cs.size := by rw [hcs]; kernel_rfl
  simp [asAddr, run_loadVar_row w b 31 31 cs (0, 0) _ h Tryd.underlying31 rfl hi]
set_option maxRecDepth 100000 in
set_option maxHeartbeats 16000000 in
theorem sact_any (C : Cf) (t : St) (w : World) (sb N : Nat) (s : SS) (hS : SwAt C t w sb s) (hok : SOk C.threads N s) (h64 : C.threads ≤ 64) :
    Calls Tryd.prog 16 #[.pointer (some ⟨sb, 0, none⟩)] w fun e w' => e = .returned (encO (sact C.desk s)) ∧ Below w.heap.size w w' := by
  obtain ⟨part, oldest, thread, link, log, slot, box, freed⟩ := s
  have c0 := cell_of' hS 0
  have c5 := cell_of' hS 5
  have c6 := cell_of' hS 6
  have c7 := cell_of' hS 7
  have c8 := cell_of' hS 8
  have c9 := cell_of' hS 9
  have c10 := cell_of' hS 10
  have c11 := cell_of' hS 11
  simp only [List.getElem?_toArray, List.getElem?_cons_succ, List.getElem?_cons_zero] at c0 c5 c6 c7 c8 c9 c10 c11
  have HOK := Lib.hid hok
  have HSW := Lib.hid hS
  clear hok hS
  have hp := HOK.out.part
  dsimp only at hp
  obtain ⟨hp1, hp2⟩ := hp
  go_enter Tryd.func16, Tryd.ntmps16
  go_wp2_with (first | (go_at_call 25; refine (block_c _ _).mono ?_; rintro e w' ⟨rfl, n, rfl⟩))
  generalize hW : World.alloc w _ = W1
  have hb1 : Below w.heap.size w W1 := by rw [← hW]; exact (Below.refl _ _).alloc (Nat.le_refl _) _
  have hsz : W1.heap.size = w.heap.size + 1 := by rw [← hW]; simp
  have hx1 : W1.heap[w.heap.size]? = some (.cells #[.int .i64 0, .int .u64 0, .int .i64 0, .int .u64 0, .int .u64 0] 31 (0, 0)) := by rw [← hW]; exact heap_alloc_new w _
  have HX1 := Lib.hid hx1
  clear hx1
  have HB1 := Lib.hid hb1
  have HSB := Lib.hid (Nat.lt_of_lt_of_le HSW.out.lt hb1.size)
  have HS1 := Lib.hid (HSW.out.below hb1)
  have q0 : ∀ p : BelowBy W1, World.cell? p.w ⟨sb, 0, none⟩ = some (.int .u64 C.desk) := fun p => p.cell HSB.out (cell_of' HS1.out 0)
  have q6 : ∀ p : BelowBy W1, World.cell? p.w ⟨sb, 6, none⟩ = some (.int .u64 oldest) := fun p => p.cell HSB.out (cell_of' HS1.out 6)
  have CB := Lib.hid (show ∀ p : BelowBy W1, Calls Tryd.prog 25 #[.int .u64 oldest] p.w fun e w'' => e = .returned (.int .u64 (blk oldest)) ∧ ∃ q : BelowBy W1, w'' = q.w from fun p => calls_bel ((block_c oldest p.w).mono fun e w' ⟨he, n, hn⟩ => ⟨he, by rw [hn]; exact below_drewN' _ n⟩))
  clear c0 c5 c6 c7 c8 c9 c10 c11 hb1
  refine wp_region_bel (by kernel_rfl) (by kernel_rfl) ?_
  repeat (first | go_big_quiet_step ((go_at_call 25; exact CB.out _)) | quiet_step ((go_at_call 25; exact CB.out _)))
  refine wpQuiet_nil ?_
  intro w5 hw'
  obtain ⟨p5, hp5⟩ := hw'
  have hb5 := p5.hb
  rw [← hp5] at hb5
  clear hp5 q0 q6
  have B5 := Lib.hid (HB1.out.trans (hb5.mono HB1.out.size))
  have HS5 := HS1.out.below hb5
  have HX5 := (hb5.block w.heap.size (by omega)).trans HX1.out
  clear hb5
  have e0 := cell_of' HX5 0
  have e1 := cell_of' HX5 1
  have e2 := cell_of' HX5 2
  have e3 := cell_of' HX5 3
  have e4 := cell_of' HX5 4
  have z0 := frozen_of' HX5 0
  have z1 := frozen_of' HX5 1
  have z2 := frozen_of' HX5 2
  have z3 := frozen_of' HX5 3
  have z4 := frozen_of' HX5 4
  simp only [List.getElem?_toArray, List.getElem?_cons_succ, List.getElem?_cons_zero] at e0 e1 e2 e3 e4
  have HX5' := Lib.hid HX5
  clear HX5
  have c5 := cell_of' HS5 5
  have c6 := cell_of' HS5 6
  have c7 := cell_of' HS5 7
  have c8 := cell_of' HS5 8
  have c9 := cell_of' HS5 9
  have c10 := cell_of' HS5 10
  have c11 := cell_of' HS5 11
  simp only [List.getElem?_toArray, List.getElem?_cons_succ, List.getElem?_cons_zero] at c5 c6 c7 c8 c9 c10 c11
  have HS5' := HS5
  clear HS5
  have hcase : part = 1 ∨ part = 2 ∨ part = 3 ∨ part = 4 ∨ part = 5 ∨ part = 6 ∨ part = 7 ∨ part = 8 ∨ part = 9 ∨ part = 10 ∨ part = 11 ∨ part = 12 := by omega
  have hbo : 0 ≤ blk oldest ∧ blk oldest < 2305843009213693952 := by have := HOK.out.old; dsimp only at this; unfold blk; omega
  clear hp1 hp2
  have HS5 := Lib.hid HS5'
  clear HS5'
  have HSB5 := Lib.hid HS5.out.lt
  have e5 : sb ≠ w.heap.size := by have := HSW.out.lt; omega
  have E5 := Lib.hid e5
  clear e5
  have close : ∀ (w6 : World), Below w.heap.size w w6 → ∀ (u0 u1 u2 u3 u4 : Value), Below w.heap.size w (((((w6.setCell ⟨w.heap.size, 0, none⟩ u0).setCell ⟨w.heap.size, 1, none⟩ u1).setCell ⟨w.heap.size, 2, none⟩ u2).setCell ⟨w.heap.size, 3, none⟩ u3).setCell ⟨w.heap.size, 4, none⟩ u4) := fun w6 h6 u0 u1 u2 u3 u4 =>
    below_sc (below_sc (below_sc (below_sc (below_sc h6 (Nat.le_refl _) _ _) (Nat.le_refl _) _ _) (Nat.le_refl _) _ _) (Nat.le_refl _) _ _) (Nat.le_refl _) _ _
  have CL := Lib.hid close
  clear close
  rcases hcase with rfl | rfl | rfl | rfl | rfl | rfl | rfl | rfl | rfl | rfl | rfl | rfl
  case inr.inr.inl =>
    have HA := Lib.hid (again_s HOK.out.old.1 HOK.out.old.2 w5.drew)
    dsimp only at HA
    go_wp2_with fail
    refine wp_region_still_tail 11 (by kernel_rfl) (by kernel_rfl) ?_
    simp only [List.take_succ_cons, List.take_zero, List.drop_succ_cons, List.drop_zero]
    repeat still_step
    still_call HA.out
    repeat still_step
    refine wpStill_nil ?_
    change wpList _ _ _ _ _ w5.drew
    go_wp2_with fail
    exact ⟨rfl, _, ret_act rfl (set5d HX5'.out _ _ _ _ _) rfl rfl, rfl, (CL.out _ B5.out _ _ _ _ _).drew⟩
  case inr.inr.inr.inl =>
    have HA := Lib.hid (table_cell_c (i := thread) (Nat.lt_of_lt_of_le (HOK.out.thr.2 rfl) h64) w5)
    go_wp2_with fail
    refine HA.out.mono ?_
    rintro e w6 ⟨rfl, n, rfl⟩
    go_wp2_with fail
    exact ⟨rfl, _, ret_act rfl (set5 (w := w5.drewN n) (by rw [drewN_heap]; exact HX5'.out) _ _ _ _ _) rfl rfl, rfl, CL.out _ (dn' B5.out n) _ _ _ _ _⟩
  case inr.inr.inr.inr.inr.inr.inr.inl =>
    have hlg := HOK.out.lg.2.2 (Or.inl rfl)
    dsimp only at hlg
    obtain ⟨hl9, hsl⟩ := hlg
    have q1 : IntKind.i64.wrap ((slot : Int) / 8) = ((slot / 8 : Nat) : Int) := by
      have := HOK.out.lg.2.1
      dsimp only at this
      rw [IntWalk.i64_in _ (by omega)]
      omega
    have m1 : (slot : Int) % 8 = ((slot % 8 : Nat) : Int) := by omega
    have HE : 7 + (groups log : Int) + 8 * ((slot / 8 : Nat) : Int) + ((slot % 8 : Nat) : Int) = 7 + (groups log : Int) + (slot : Int) := by omega
    have HA := Lib.hid (show Calls Tryd.prog 28 #[.int .i64 log, .int .i64 (IntKind.i64.wrap ((slot : Int) / 8)), .int .i64 ((slot : Int) % 8)] w5.drew fun e w' => e = .returned (.int .i64 (7 + (groups log : Int) + (slot : Int))) ∧ w' = w5.drew from by
      rw [q1, m1, ← HE]
      exact slot_s (log := log) (g := slot / 8) (q := slot % 8) hl9 (by omega) (by omega) w5.drew)
    clear q1 m1 HE
    clear hsl hl9
    go_wp2_with fail
    refine wp_region_still_tail 17 (by kernel_rfl) (by kernel_rfl) ?_
    simp only [List.take_succ_cons, List.take_zero, List.drop_succ_cons, List.drop_zero]
    repeat still_step
    still_call HA.out
    repeat still_step
    refine wpStill_nil ?_
    change wpList _ _ _ _ _ w5.drew
    go_wp2_with fail
    exact ⟨rfl, _, ret_act rfl (set5d HX5'.out _ _ _ _ _) rfl rfl, rfl, (CL.out _ B5.out _ _ _ _ _).drew⟩
  case inr.inr.inr.inr.inr.inr.inr.inr.inr.inr.inl =>
    have hbl : 0 ≤ blk link ∧ blk link < 2305843009213693952 := by have := HOK.out.link; dsimp only at this; unfold blk; omega
    go_wp2_with fail
    refine (block_c link w5).mono ?_
    rintro e w6 ⟨rfl, n, rfl⟩
    go_wp2_with fail
    refine (make_c hbl.1 hbl.2 _).mono ?_
    rintro e w6 ⟨rfl, n', rfl⟩
    go_wp2_with fail
    exact ⟨rfl, _, ret_act rfl (set5 (w := w5.drewN (n + n')) (by rw [drewN_heap]; exact HX5'.out) _ _ _ _ _) rfl rfl, rfl, CL.out _ (dn' B5.out (n + n')) _ _ _ _ _⟩
  all_goals go_wp2_with fail
  all_goals exact ⟨rfl, _, ret_act rfl (set5 HX5'.out _ _ _ _ _) rfl rfl, rfl, CL.out _ B5.out _ _ _ _ _⟩
end Go.Proofs.YtkoebhflbhpfnaaDoor.Fl
namespace Go.Proofs.YtkoebhflbhpfnaaDoor.Fl
open Go.RowKit Bq Go.Proofs.YtkoebhflbhpfnaaDoorW.PrintWords Go.Proofs.YtkoebhflbhpfnaaDoorW.PrintLast Go.Proofs.YtkoebhflbhpfnaaDoorW.PrintMore
set_option linter.unusedVariables false
set_option linter.unusedSimpArgs false
/-- All blocks but those of S are as they were. -/
structure Fr (S : Nat → Prop) (w w' : World) : Prop where
  os : w'.os = w.os
  tape : w'.tape = w.tape
  output : w'.output = w.output
  size : w.heap.size ≤ w'.heap.size
  block : ∀ k, k < w.heap.size → ¬ S k → w'.heap[k]? = w.heap[k]?
theorem Fr.refl (S : Nat → Prop) (w : World) : Fr S w w := ⟨rfl, rfl, rfl, Nat.le_refl _, fun _ _ _ => rfl⟩
theorem Fr.trans {S : Nat → Prop} {w w1 w2 : World} (h : Fr S w w1) (g : Fr S w1 w2) : Fr S w w2 :=
  ⟨g.os.trans h.os, g.tape.trans h.tape, g.output.trans h.output, Nat.le_trans h.size g.size, fun k hk h1 => (g.block k (Nat.lt_of_lt_of_le hk h.size) h1).trans (h.block k hk h1)⟩
theorem Fr.of_below {S : Nat → Prop} {w w' : World} (h : Below w.heap.size w w') : Fr S w w' := ⟨h.os, h.tape, h.output, h.size, fun k hk _ => h.block k hk⟩
theorem Fr.set {S : Nat → Prop} (w : World) {b : Nat} (hb : S b) (i : Nat) (v : Value) : Fr S w (w.setCell ⟨b, i, none⟩ v) :=
  ⟨rfl, rfl, rfl, by simp [World.setCell], fun k hk h1 => Below.heap_setCell w ⟨b, i, none⟩ v k (fun e => h1 (by rw [e]; exact hb))⟩
theorem Fr.put {S : Nat → Prop} {w w' : World} (h : Fr S w w') {b : Nat} (hb : S b) (i : Nat) (v : Value) : Fr S w (w'.setCell ⟨b, i, none⟩ v) := h.trans (Fr.set w' hb i v)
theorem Fr.drewN {S : Nat → Prop} {w w' : World} (h : Fr S w w') (n : Nat) : Fr S w (w'.drewN n) := ⟨h.os, h.tape, h.output, h.size, h.block⟩
theorem Fr.drew {S : Nat → Prop} {w w' : World} (h : Fr S w w') : Fr S w w'.drew := ⟨h.os, h.tape, h.output, h.size, h.block⟩
theorem Fr.weaken {S T : Nat → Prop} {w w' : World} (h : Fr S w w') (hs : ∀ k, S k → T k) : Fr T w w' := ⟨h.os, h.tape, h.output, h.size, fun k hk h1 => h.block k hk (fun e => h1 (hs k e))⟩
theorem Fr.below {S : Nat → Prop} {w w' : World} {B : Nat} (h : Fr S w w') (hs : ∀ k, S k → B ≤ k) (hb : B ≤ w.heap.size) : Below B w w' :=
  ⟨h.os, h.tape, h.output, h.size, fun k hk => h.block k (by omega) (fun e => by have := hs k e; omega)⟩
def only (b : Nat) : Nat → Prop := fun k => k = b
theorem only_self (b : Nat) : only b b := rfl
section
variable {C : Cf} {t : St} {w : World} {sb : Nat} {s : SS}
theorem SwAt.setPart (h : SwAt C t w sb s) (p : Nat) : SwAt C t (w.setCell ⟨sb, 5, none⟩ (.int .i64 p)) sb { s with part := p } := by
  unfold SwAt at *; have := set1 h 5 (.int .i64 p); simpa using this
theorem SwAt.setOldest (h : SwAt C t w sb s) (x : Int) : SwAt C t (w.setCell ⟨sb, 6, none⟩ (.int .u64 x)) sb { s with oldest := x } := by
  unfold SwAt at *; have := set1 h 6 (.int .u64 x); simpa using this
theorem SwAt.setThread (h : SwAt C t w sb s) (x : Nat) : SwAt C t (w.setCell ⟨sb, 7, none⟩ (.int .i64 x)) sb { s with thread := x } := by
  unfold SwAt at *; have := set1 h 7 (.int .i64 x); simpa using this
theorem SwAt.setLink (h : SwAt C t w sb s) (x : Int) : SwAt C t (w.setCell ⟨sb, 8, none⟩ (.int .u64 x)) sb { s with link := x } := by
  unfold SwAt at *; have := set1 h 8 (.int .u64 x); simpa using this
theorem SwAt.setLog (h : SwAt C t w sb s) (x : Nat) : SwAt C t (w.setCell ⟨sb, 9, none⟩ (.int .i64 x)) sb { s with log := x } := by
  unfold SwAt at *; have := set1 h 9 (.int .i64 x); simpa using this
theorem SwAt.setSlot (h : SwAt C t w sb s) (x : Nat) : SwAt C t (w.setCell ⟨sb, 10, none⟩ (.int .i64 x)) sb { s with slot := x } := by
  unfold SwAt at *; have := set1 h 10 (.int .i64 x); simpa using this
theorem SwAt.setBox (h : SwAt C t w sb s) (x : Int) : SwAt C t (w.setCell ⟨sb, 11, none⟩ (.int .u64 x)) sb { s with box := x } := by
  unfold SwAt at *; have := set1 h 11 (.int .u64 x); simpa using this
theorem SwAt.setFreed (h : SwAt C t w sb s) (x : Nat) : SwAt C t (w.setCell ⟨sb, 12, none⟩ (.int .i64 x)) sb { s with freed := x } := by
  unfold SwAt at *; have := set1 h 12 (.int .i64 x); simpa using this
theorem SwAt.drew (h : SwAt C t w sb s) : SwAt C t w.drew sb s := h
theorem SwAt.drewN (h : SwAt C t w sb s) (n : Nat) : SwAt C t (w.drewN n) sb s := h
end
set_option maxRecDepth 100000 in
set_option maxHeartbeats 400000 in
theorem passed_hold (C : Cf) (t : St) (w : World) (sb : Nat) (s : SS) (g : Int) (hS : SwAt C t w sb s) (h8 : s.part = 8) (h0 : 0 ≤ g) (h1 : g < 18446744073709551616) (hg : hld g = true) :
    Calls Tryd.prog 33 #[.pointer (some ⟨sb, 0, none⟩), .int .u64 g] w fun e w' => e = .returned (.tuple #[]) ∧ SwAt C t w' sb { s with box := blk g, part := 9 } ∧ Fr (only sb) w w' := by
  obtain ⟨part, oldest, thread, link, log, slot, box, freed⟩ := s
  dsimp only at h8
  subst h8
  have c5 := cell_of' hS 5
  simp only [List.getElem?_toArray, List.getElem?_cons_succ, List.getElem?_cons_zero] at c5
  have HH := holds_c h0 h1 w
  rw [hg] at HH
  have HH' := Lib.hid HH
  have HS := Lib.hid hS
  clear hS h0 h1 hg HH
  go_enter Tryd.func33, Tryd.ntmps33
  go_wp2
  go_step3
  go_wp2_with fail
  refine HH'.out.mono ?_
  rintro e w1 ⟨rfl, hb1⟩
  have HS1 := HS.out.below hb1
  have d5 := cell_of' HS1 5
  have z5 := frozen_of' HS1 5
  have d11 := cell_of' HS1 11
  have z11 := frozen_of' HS1 11
  simp only [List.getElem?_toArray, List.getElem?_cons_succ, List.getElem?_cons_zero] at d5 d11
  have HS1' := Lib.hid HS1
  have HB1 := Lib.hid hb1
  clear HS1 hb1 c5
  go_wp2_with fail
  refine (block_s g _).mono ?_
  rintro e w2 ⟨rfl, rfl⟩
  go_wp2_with fail
  rw [Exit.noGoto_ret]
  refine bodyPost_ret (results_none rfl _ _ _) rfl ?_
  exact ⟨rfl, (HS1'.out.setBox _).setPart 9, ((Fr.of_below HB1.out).put (only_self _) _ _).put (only_self _) _ _⟩
/-- What the cells' number says where a group is none. -/
theorem slot_n {log g : Nat} (h : log ≤ 9) (hg : ¬ g < groups log) (hg' : g < 1000000) (w : World) : Calls Tryd.prog 28 #[.int .i64 log, .int .i64 g, .int .i64 0] w fun e w' => e = .returned (.int .i64 (-1)) ∧ ∃ n, w' = w.drewN n := by
  have := slot_c (log := log) (g := g) (q := 0) (by omega) hg' (by omega) w
  unfold slotCell at this
  rw [if_neg hg] at this
  exact this
theorem slot_y {log g : Nat} (h : log ≤ 9) (hg : g < groups log) (w : World) : Calls Tryd.prog 28 #[.int .i64 log, .int .i64 g, .int .i64 0] w fun e w' => e = .returned (.int .i64 (7 + (groups log : Int) + 8 * (g : Int))) ∧ ∃ n, w' = w.drewN n := by
  have hl := groups_le' log
  have := slot_c (log := log) (g := g) (q := 0) (by omega) (by omega) (by omega) w
  unfold slotCell at this
  rw [if_pos hg] at this
  simpa using this
set_option maxRecDepth 100000 in
set_option maxHeartbeats 400000 in
theorem passed_jump (C : Cf) (t : St) (w : World) (sb : Nat) (oldest : Int) (thread : Nat) (link : Int) (log slot : Nat) (box : Int) (freed : Nat) (g : Int) (hS : SwAt C t w sb ⟨9, oldest, thread, link, log, slot, box, freed⟩) (hlog : log ≤ 9) (hslot : slot < 5000) :
    Calls Tryd.prog 33 #[.pointer (some ⟨sb, 0, none⟩), .int .u64 g] w fun e w' => e = .returned (.tuple #[]) ∧ SwAt C t w' sb (snext ⟨9, oldest, thread, link, log, slot, box, freed⟩) ∧ Fr (only sb) w w' := by
  have hg0 := groups_le' log
  by_cases hlt : slot + 1 < 8 * groups log
  all_goals
    have hst : snext ⟨9, oldest, thread, link, log, slot, box, freed⟩ = ⟨if slot + 1 < 8 * groups log then 8 else 10, oldest, thread, link, log, slot + 1, box, freed⟩ := rfl
    rw [hst]
    first | rw [if_pos hlt] | rw [if_neg hlt]
    clear hst
    have qe : (((slot + 1) / 8 : Nat) : Int) = ((slot : Int) + 1) / 8 := by omega
    first
      | (have HN := Lib.hid (fun W => slot_y (log := log) (g := (slot + 1) / 8) hlog (by omega) W))
      | (have HN := Lib.hid (fun W => slot_n (log := log) (g := (slot + 1) / 8) hlog (by omega) (by omega) W))
    rw [qe] at HN
    have q1 : IntKind.i64.wrap ((slot : Int) + 1) = (slot : Int) + 1 := IntWalk.i64_in _ (by omega)
    have q5 : IntKind.i64.wrap (((slot : Int) + 1).tdiv 8) = ((slot : Int) + 1) / 8 := by
      rw [Int.tdiv_eq_ediv_of_nonneg (by omega), IntWalk.i64_in _ (by omega)]
    have q3 : (0 : Int) ≤ (slot : Int) + 1 := by omega
    have q4 : (7 : Int) + (groups log : Int) + 8 * (((slot : Int) + 1) / 8) < 0 ↔ False := by exact ⟨fun h => by omega, fun h => h.elim⟩
    have HQ := Lib.hid hlt
    clear hlt hg0
    have c5 := cell_of' hS 5
    have z5 := frozen_of' hS 5
    have c9 := cell_of' hS 9
    have c10 := cell_of' hS 10
    have z10 := frozen_of' hS 10
    simp only [List.getElem?_toArray, List.getElem?_cons_succ, List.getElem?_cons_zero] at c5 c9 c10
    have HS := Lib.hid hS
    clear hS
    go_enter Tryd.func33, Tryd.ntmps33
    go_wp2
    refine wp_scope_jumps 0 (fun a' w' => a' = { tmps := #[.pointer (some ⟨sb, 0, none⟩), .int .u64 g, undef, undef, .pointer (some ⟨sb, 0, none⟩), .pointer (some ⟨sb, 0, none⟩), .pointer (some ⟨sb, 5, none⟩), .int .i64 9, .bool true, undef, undef, undef, undef, undef, undef, undef, undef, undef, undef, undef, undef, undef, undef, undef, undef, undef, undef, undef, undef, undef, undef, undef, undef, undef, undef, undef, undef, undef, undef, undef, undef, undef, undef], defers := [] } ∧ w' = w) (fun _ _ => 0) rfl ?_ ?_
    · go_wp2
      go_step3
      exact ⟨rfl, rfl, rfl⟩
    rintro a' w' ⟨rfl, rfl⟩
    go_wp2_with fail
    go_quiet ((go_at_call 28; with_reducible exact Calls.quiet_of (HN.out _)))
    go_wp2_with fail
    simp only [Exit.jump]
    go_end0
    first
      | exact ⟨rfl, (by have hh := HS.out; unfold SwAt at hh ⊢; simp [World.setCell, drewN_heap, drew_heap, Array.getElem?_modify, hh]), (((Fr.refl _ _).put (only_self _) _ _).put (only_self _) _ _).drewN nq⟩
      | exact ⟨rfl, (by have hh := HS.out; unfold SwAt at hh ⊢; simp [World.setCell, drewN_heap, drew_heap, Array.getElem?_modify, hh]), ((((Fr.refl _ _).put (only_self _) _ _).put (only_self _) _ _).drewN nq).put (only_self _) _ _⟩
set_option maxRecDepth 100000 in
set_option maxHeartbeats 400000 in
theorem passed_miss (C : Cf) (t : St) (w : World) (sb : Nat) (oldest : Int) (thread : Nat) (link : Int) (log slot : Nat) (box : Int) (freed : Nat) (g : Int) (hS : SwAt C t w sb ⟨8, oldest, thread, link, log, slot, box, freed⟩) (h0 : 0 ≤ g) (h1 : g < 18446744073709551616) (hg : hld g = false) (hlog : log ≤ 9) (hslot : slot < 5000) :
    Calls Tryd.prog 33 #[.pointer (some ⟨sb, 0, none⟩), .int .u64 g] w fun e w' => e = .returned (.tuple #[]) ∧ SwAt C t w' sb (snext ⟨8, oldest, thread, link, log, slot, box, freed⟩) ∧ Fr (only sb) w w' := by
  have hg0 := groups_le' log
  by_cases hlt : slot + 1 < 8 * groups log
  all_goals
    have hst : snext ⟨8, oldest, thread, link, log, slot, box, freed⟩ = ⟨if slot + 1 < 8 * groups log then 8 else 10, oldest, thread, link, log, slot + 1, box, freed⟩ := rfl
    rw [hst]
    first | rw [if_pos hlt] | rw [if_neg hlt]
    clear hst
    have qe : (((slot + 1) / 8 : Nat) : Int) = ((slot : Int) + 1) / 8 := by omega
    first
      | (have HN := Lib.hid (fun W => slot_y (log := log) (g := (slot + 1) / 8) hlog (by omega) W))
      | (have HN := Lib.hid (fun W => slot_n (log := log) (g := (slot + 1) / 8) hlog (by omega) (by omega) W))
    rw [qe] at HN
    have q1 : IntKind.i64.wrap ((slot : Int) + 1) = (slot : Int) + 1 := IntWalk.i64_in _ (by omega)
    have q5 : IntKind.i64.wrap (((slot : Int) + 1).tdiv 8) = ((slot : Int) + 1) / 8 := by
      rw [Int.tdiv_eq_ediv_of_nonneg (by omega), IntWalk.i64_in _ (by omega)]
    have q3 : (0 : Int) ≤ (slot : Int) + 1 := by omega
    have q4 : (7 : Int) + (groups log : Int) + 8 * (((slot : Int) + 1) / 8) < 0 ↔ False := by exact ⟨fun h => by omega, fun h => h.elim⟩
    have HQ := Lib.hid hlt
    clear hlt hg0
    have HH := holds_c h0 h1 w
    rw [hg] at HH
    have HH' := Lib.hid HH
    have c5 := cell_of' hS 5
    simp only [List.getElem?_toArray, List.getElem?_cons_succ, List.getElem?_cons_zero] at c5
    have HS := Lib.hid hS
    clear hS h0 h1 hg HH
    go_enter Tryd.func33, Tryd.ntmps33
    go_wp2
    go_step3
    go_wp2_with fail
    refine HH'.out.mono ?_
    rintro e w1 ⟨rfl, hb1⟩
    have HS1 := HS.out.below hb1
    have d5 := cell_of' HS1 5
    have z5 := frozen_of' HS1 5
    have d9 := cell_of' HS1 9
    have d10 := cell_of' HS1 10
    have z10 := frozen_of' HS1 10
    simp only [List.getElem?_toArray, List.getElem?_cons_succ, List.getElem?_cons_zero] at d5 d9 d10
    have HS1' := Lib.hid HS1
    have HB1 := Lib.hid hb1
    clear HS1 hb1 c5
    go_wp2_with fail
    go_step3
    go_wp2_with fail
    go_quiet ((go_at_call 28; with_reducible exact Calls.quiet_of (HN.out _)))
    go_wp2_with fail
    simp only [Exit.noGoto_normal]
    go_end0
    first
      | exact ⟨rfl, (by have hh := HS1'.out; unfold SwAt at hh ⊢; simp [World.setCell, drewN_heap, drew_heap, Array.getElem?_modify, hh]), (((Fr.of_below HB1.out).put (only_self _) _ _).put (only_self _) _ _).drewN nq⟩
      | exact ⟨rfl, (by have hh := HS1'.out; unfold SwAt at hh ⊢; simp [World.setCell, drewN_heap, drew_heap, Array.getElem?_modify, hh]), ((((Fr.of_below HB1.out).put (only_self _) _ _).put (only_self _) _ _).drewN nq).put (only_self _) _ _⟩
end Go.Proofs.YtkoebhflbhpfnaaDoor.Fl
namespace Go.Proofs.YtkoebhflbhpfnaaDoor.Fl
open Go.RowKit Bq Go.Proofs.YtkoebhflbhpfnaaDoorW.PrintWords Go.Proofs.YtkoebhflbhpfnaaDoorW.PrintLast Go.Proofs.YtkoebhflbhpfnaaDoorW.PrintMore
set_option linter.unusedVariables false
set_option linter.unusedSimpArgs false
theorem SwAt.setPart' {C : Cf} {t : St} {w : World} {sb : Nat} {s : SS} (h : SwAt C t w sb s) {v : Value} (p : Nat) (hv : v = .int .i64 p) : SwAt C t (w.setCell ⟨sb, 5, none⟩ v) sb { s with part := p } := by rw [hv]; exact h.setPart p
theorem SwAt.setInt' {C : Cf} {t : St} {w : World} {sb : Nat} {s : SS} {s' : SS} {i : Nat} {v u : Value} (h : SwAt C t (w.setCell ⟨sb, i, none⟩ u) sb s') (hv : v = u) : SwAt C t (w.setCell ⟨sb, i, none⟩ v) sb s' := by rw [hv]; exact h

theorem when_s (b : Bool) (x y : Int) (w : World) : Calls Tryd.prog 30 #[.bool b, .int .i64 x, .int .i64 y] w fun e w' => e = .returned (.int .i64 (if b = true then x else y)) ∧ w' = w := by
  cases b
  all_goals
    go_enter Tryd.func30, Tryd.ntmps30
    go_wp2_with fail
    go_ret
    exact ⟨rfl, rfl⟩
set_option maxRecDepth 100000 in
set_option maxHeartbeats 4000000 in
theorem take1 (C : Cf) (t : St) (w : World) (sb : Nat) (oldest : Int) (thread : Nat) (link : Int) (log slot : Nat) (box : Int) (freed : Nat) (g : Int) (hS : SwAt C t w sb ⟨1, oldest, thread, link, log, slot, box, freed⟩) (h0 : 0 ≤ g) (h1 : g < 18446744073709551616) :
    Calls Tryd.prog 18 #[.pointer (some ⟨sb, 0, none⟩), .int .u64 g] w fun e w' => e = .returned (.tuple #[]) ∧ SwAt C t w' sb ⟨if mrk g ≠ 0 ∨ blk g = 0 then 12 else 2, g, thread, link, log, slot, box, freed⟩ ∧ Fr (only sb) w w' := by
  have c5 := cell_of' hS 5
  have z5 := frozen_of' hS 5
  have c6 := cell_of' hS 6
  have z6 := frozen_of' hS 6
  simp only [List.getElem?_toArray, List.getElem?_cons_succ, List.getElem?_cons_zero] at c5 c6
  have HS := Lib.hid hS
  have HM := Lib.hid (fun W => mark_c h0 h1 W)
  clear hS h0 h1
  go_enter Tryd.func18, Tryd.ntmps18
  go_wp2_with fail
  refine (block_s oldest _).mono ?_
  rintro e w1 ⟨rfl, rfl⟩
  go_wp2_with fail
  refine (HM.out _).mono ?_
  rintro e w2 ⟨rfl, n, rfl⟩
  go_wp2_with (first | (go_at_call 25; refine (block_s g _).mono ?_; rintro e w3 ⟨rfl, rfl⟩) | (go_at_call 30; refine (when_c _ _ _ _).mono ?_; rintro e w4 ⟨rfl, n4, rfl⟩))
  all_goals
    go_end0
    exact ⟨rfl, (by have hh := HS.out; unfold SwAt at hh ⊢; simp [World.setCell, drewN_heap, drew_heap, Array.getElem?_modify, hh]), (((Fr.refl _ _).put (only_self _) _ _).drewN _).put (only_self _) _ _⟩
set_option maxRecDepth 100000 in
set_option maxHeartbeats 4000000 in
theorem take2 (C : Cf) (t : St) (w : World) (sb : Nat) (oldest : Int) (thread : Nat) (link : Int) (log slot : Nat) (box : Int) (freed : Nat) (g : Int) (hS : SwAt C t w sb ⟨2, oldest, thread, link, log, slot, box, freed⟩) (h0 : 0 ≤ g) (h1 : g < 18446744073709551616) :
    Calls Tryd.prog 18 #[.pointer (some ⟨sb, 0, none⟩), .int .u64 g] w fun e w' => e = .returned (.tuple #[]) ∧ SwAt C t w' sb ⟨if g = blk oldest then 12 else 3, oldest, thread, link, log, slot, box, freed⟩ ∧ Fr (only sb) w w' := by
  have c5 := cell_of' hS 5
  have z5 := frozen_of' hS 5
  have c6 := cell_of' hS 6
  have z6 := frozen_of' hS 6
  simp only [List.getElem?_toArray, List.getElem?_cons_succ, List.getElem?_cons_zero] at c5 c6
  have HS := Lib.hid hS
  clear hS h0 h1
  go_enter Tryd.func18, Tryd.ntmps18
  go_wp2_with fail
  refine (block_s oldest _).mono ?_
  rintro e w1 ⟨rfl, rfl⟩
  go_wp2_with fail
  refine (when_c _ _ _ _).mono ?_
  rintro e w2 ⟨rfl, n, rfl⟩
  go_wp2_with fail
  all_goals
    go_end0
    exact ⟨rfl, (by have hh := HS.out; unfold SwAt at hh ⊢; simp [World.setCell, drewN_heap, drew_heap, Array.getElem?_modify, hh]), ((Fr.refl _ _).drewN _).put (only_self _) _ _⟩
set_option maxRecDepth 100000 in
set_option maxHeartbeats 4000000 in
theorem take3 (C : Cf) (t : St) (w : World) (sb : Nat) (oldest : Int) (thread : Nat) (link : Int) (log slot : Nat) (box : Int) (freed : Nat) (g : Int) (hS : SwAt C t w sb ⟨3, oldest, thread, link, log, slot, box, freed⟩) (h0 : 0 ≤ g) (h1 : g < 18446744073709551616) :
    Calls Tryd.prog 18 #[.pointer (some ⟨sb, 0, none⟩), .int .u64 g] w fun e w' => e = .returned (.tuple #[]) ∧ SwAt C t w' sb ⟨if g ≠ oldest then 12 else 4, oldest, 0, link, log, slot, box, freed⟩ ∧ Fr (only sb) w w' := by
  have c5 := cell_of' hS 5
  have z5 := frozen_of' hS 5
  have c6 := cell_of' hS 6
  have z6 := frozen_of' hS 6
  have c7 := cell_of' hS 7
  have z7 := frozen_of' hS 7
  simp only [List.getElem?_toArray, List.getElem?_cons_succ, List.getElem?_cons_zero] at c5 c6 c7
  have HS := Lib.hid hS
  clear hS h0 h1
  go_enter Tryd.func18, Tryd.ntmps18
  go_wp2_with fail
  refine (block_s oldest _).mono ?_
  rintro e w1 ⟨rfl, rfl⟩
  go_wp2_with fail
  refine (when_c _ _ _ _).mono ?_
  rintro e w2 ⟨rfl, n, rfl⟩
  go_wp2_with fail
  all_goals
    go_end0
    exact ⟨rfl, (by have hh := HS.out; unfold SwAt at hh ⊢; simp [World.setCell, drewN_heap, drew_heap, Array.getElem?_modify, hh]), (((Fr.refl _ _).put (only_self _) _ _).drewN _).put (only_self _) _ _⟩
set_option maxRecDepth 100000 in
set_option maxHeartbeats 4000000 in
theorem take4 (C : Cf) (t : St) (w : World) (sb : Nat) (oldest : Int) (thread : Nat) (link : Int) (log slot : Nat) (box : Int) (freed : Nat) (g : Int) (hS : SwAt C t w sb ⟨4, oldest, thread, link, log, slot, box, freed⟩) (h0 : 0 ≤ g) (h1 : g < 18446744073709551616) (ht : thread < 64) :
    Calls Tryd.prog 18 #[.pointer (some ⟨sb, 0, none⟩), .int .u64 g] w fun e w' => e = .returned (.tuple #[]) ∧ SwAt C t w' sb ⟨if g = blk oldest then 5 else if thread + 1 = C.threads then 6 else 4, oldest, thread + 1, link, log, slot, box, freed⟩ ∧ Fr (only sb) w w' := by
  have c2 := cell_of' hS 2
  have c5 := cell_of' hS 5
  have z5 := frozen_of' hS 5
  have c6 := cell_of' hS 6
  have z6 := frozen_of' hS 6
  have c7 := cell_of' hS 7
  have z7 := frozen_of' hS 7
  simp only [List.getElem?_toArray, List.getElem?_cons_succ, List.getElem?_cons_zero] at c2 c5 c6 c7
  have HS := Lib.hid hS
  clear hS h0 h1
  go_enter Tryd.func18, Tryd.ntmps18
  go_wp2_with fail
  refine (block_s oldest _).mono ?_
  rintro e w1 ⟨rfl, rfl⟩
  go_wp2_with fail
  generalize hW : World.setCell w1 _ _ = W1
  have hs1 : SwAt C t W1 sb ⟨4, oldest, thread + 1, link, log, slot, box, freed⟩ := by
    rw [← hW]
    have hh := HS.out
    unfold SwAt at hh ⊢
    simp [World.setCell, Array.getElem?_modify, hh]
  have hf1 : Fr (only sb) w1 W1 := by rw [← hW]; exact (Fr.refl _ _).put (only_self _) _ _
  have d2 := cell_of' hs1 2
  have d5 := cell_of' hs1 5
  have y5 := frozen_of' hs1 5
  have d7 := cell_of' hs1 7
  simp only [List.getElem?_toArray, List.getElem?_cons_succ, List.getElem?_cons_zero] at d2 d5 d7
  have HS1 := Lib.hid hs1
  clear hs1 hW z5 z6 z7 c2 c5 c6 c7
  have HW := Lib.hid (fun b => when_s b 6 4 W1.drew)
  refine wp_region_still_tail 12 (by kernel_rfl) (by kernel_rfl) ?_
  simp only [List.take_succ_cons, List.take_zero, List.drop_succ_cons, List.drop_zero]
  repeat still_step
  still_call (HW.out _)
  repeat still_step
  refine wpStill_nil ?_
  change wpList _ _ _ _ _ W1.drew
  go_wp2_with fail
  all_goals
    go_end0
    first
      | (exfalso; simp only [beq_iff_eq, beq_eq_false_iff_ne, ne_eq] at *; omega)
      | exact ⟨rfl, (by have hh := HS1.out; unfold SwAt at hh ⊢; simp [World.setCell, drewN_heap, drew_heap, Array.getElem?_modify, hh] <;> omega), (hf1.drew).put (only_self _) _ _⟩
      | exact ⟨rfl, (by have hh := HS1.out; unfold SwAt at hh ⊢; simp [World.setCell, drewN_heap, drew_heap, Array.getElem?_modify, hh] <;> omega), ((hf1.drew).put (only_self _) _ _).put (only_self _) _ _⟩
      | exact ⟨rfl, (by have hh := HS1.out; unfold SwAt at hh ⊢; simp [World.setCell, drewN_heap, drew_heap, Array.getElem?_modify, hh] <;> omega), ((hf1.put (only_self _) _ _).put (only_self _) _ _).drew⟩

set_option maxRecDepth 100000 in
set_option maxHeartbeats 4000000 in
theorem take5 (C : Cf) (t : St) (w : World) (sb : Nat) (oldest : Int) (thread : Nat) (link : Int) (log slot : Nat) (box : Int) (freed : Nat) (g : Int) (hS : SwAt C t w sb ⟨5, oldest, thread, link, log, slot, box, freed⟩) (h0 : 0 ≤ g) (h1 : g < 18446744073709551616) :
    Calls Tryd.prog 18 #[.pointer (some ⟨sb, 0, none⟩), .int .u64 g] w fun e w' => e = .returned (.tuple #[]) ∧ SwAt C t w' sb ⟨12, oldest, thread, link, log, slot, box, freed⟩ ∧ Fr (only sb) w w' := by
  have c5 := cell_of' hS 5
  have z5 := frozen_of' hS 5
  have c6 := cell_of' hS 6
  have z6 := frozen_of' hS 6
  simp only [List.getElem?_toArray, List.getElem?_cons_succ, List.getElem?_cons_zero] at c5 c6
  have HS := Lib.hid hS
  clear hS h0 h1
  go_enter Tryd.func18, Tryd.ntmps18
  go_wp2_with fail
  refine (block_s oldest _).mono ?_
  rintro e w1 ⟨rfl, rfl⟩
  go_wp2_with fail

  all_goals
    go_end0
    exact ⟨rfl, (by have hh := HS.out; unfold SwAt at hh ⊢; simp [World.setCell, drewN_heap, drew_heap, Array.getElem?_modify, hh]), (Fr.refl _ _).put (only_self _) _ _⟩
set_option maxRecDepth 100000 in
set_option maxHeartbeats 4000000 in
theorem take6 (C : Cf) (t : St) (w : World) (sb : Nat) (oldest : Int) (thread : Nat) (link : Int) (log slot : Nat) (box : Int) (freed : Nat) (g : Int) (hS : SwAt C t w sb ⟨6, oldest, thread, link, log, slot, box, freed⟩) (h0 : 0 ≤ g) (h1 : g < 18446744073709551616) :
    Calls Tryd.prog 18 #[.pointer (some ⟨sb, 0, none⟩), .int .u64 g] w fun e w' => e = .returned (.tuple #[]) ∧ SwAt C t w' sb ⟨7, oldest, thread, g, log, slot, box, freed⟩ ∧ Fr (only sb) w w' := by
  have c5 := cell_of' hS 5
  have z5 := frozen_of' hS 5
  have c6 := cell_of' hS 6
  have z6 := frozen_of' hS 6
  have c8 := cell_of' hS 8
  have z8 := frozen_of' hS 8
  simp only [List.getElem?_toArray, List.getElem?_cons_succ, List.getElem?_cons_zero] at c5 c6 c8
  have HS := Lib.hid hS
  clear hS h0 h1
  go_enter Tryd.func18, Tryd.ntmps18
  go_wp2_with fail
  refine (block_s oldest _).mono ?_
  rintro e w1 ⟨rfl, rfl⟩
  go_wp2_with fail

  all_goals
    go_end0
    exact ⟨rfl, (by have hh := HS.out; unfold SwAt at hh ⊢; simp [World.setCell, drewN_heap, drew_heap, Array.getElem?_modify, hh]), ((Fr.refl _ _).put (only_self _) _ _).put (only_self _) _ _⟩
set_option maxRecDepth 100000 in
set_option maxHeartbeats 4000000 in
theorem take7a (C : Cf) (t : St) (w : World) (sb : Nat) (oldest : Int) (thread : Nat) (link : Int) (log slot : Nat) (box : Int) (freed : Nat) (g : Int) (hS : SwAt C t w sb ⟨7, oldest, thread, link, log, slot, box, freed⟩) (h0 : 0 ≤ g) (h1 : g < 18446744073709551616) (h9 : 9 < g) :
    Calls Tryd.prog 18 #[.pointer (some ⟨sb, 0, none⟩), .int .u64 g] w fun e w' => e = .returned (.tuple #[]) ∧ SwAt C t w' sb ⟨5, oldest, thread, link, 10, 0, box, freed⟩ ∧ Fr (only sb) w w' := by
  have c5 := cell_of' hS 5
  have z5 := frozen_of' hS 5
  have c6 := cell_of' hS 6
  have z6 := frozen_of' hS 6
  have c9 := cell_of' hS 9
  have z9 := frozen_of' hS 9
  have c10 := cell_of' hS 10
  have z10 := frozen_of' hS 10
  simp only [List.getElem?_toArray, List.getElem?_cons_succ, List.getElem?_cons_zero] at c5 c6 c9 c10
  have HS := Lib.hid hS
  have hm : wrap64 (min g 10) = ((10 : Nat) : Int) := by rw [show min g 10 = 10 by omega]; kernel_rfl
  have HZ := Lib.hid (fun W => size_c (log := 10) (by omega) W)
  have hz : (if groups 10 = 0 then (0 : Int) else 7 + 9 * (groups 10 : Int)) = 0 := rfl
  rw [hz] at HZ
  clear hz h9
  clear hS h0 h1
  go_enter Tryd.func18, Tryd.ntmps18
  go_wp2_with fail
  refine (block_s oldest _).mono ?_
  rintro e w1 ⟨rfl, rfl⟩
  go_wp2_with fail
  refine (HZ.out _).mono ?_
  rintro e w2 ⟨rfl, n, rfl⟩
  go_wp2_with fail
  go_end0
  exact ⟨rfl, (by have hh := HS.out; unfold SwAt at hh ⊢; simp [World.setCell, drewN_heap, drew_heap, Array.getElem?_modify, hh]), (((((Fr.refl _ _).put (only_self _) _ _).put (only_self _) _ _).put (only_self _) _ _).drewN _).put (only_self _) _ _⟩

set_option maxRecDepth 100000 in
set_option maxHeartbeats 4000000 in
theorem take7b (C : Cf) (t : St) (w : World) (sb : Nat) (oldest : Int) (thread : Nat) (link : Int) (log slot : Nat) (box : Int) (freed : Nat) (g : Int) (hS : SwAt C t w sb ⟨7, oldest, thread, link, log, slot, box, freed⟩) (h0 : 0 ≤ g) (h1 : g < 18446744073709551616) (lg : Nat) (hgl : g = (lg : Int)) (h9 : lg ≤ 9) :
    Calls Tryd.prog 18 #[.pointer (some ⟨sb, 0, none⟩), .int .u64 g] w fun e w' => e = .returned (.tuple #[]) ∧ SwAt C t w' sb ⟨8, oldest, thread, link, lg, 0, box, freed⟩ ∧ Fr (only sb) w w' := by
  have c5 := cell_of' hS 5
  have z5 := frozen_of' hS 5
  have c6 := cell_of' hS 6
  have z6 := frozen_of' hS 6
  have c9 := cell_of' hS 9
  have z9 := frozen_of' hS 9
  have c10 := cell_of' hS 10
  have z10 := frozen_of' hS 10
  simp only [List.getElem?_toArray, List.getElem?_cons_succ, List.getElem?_cons_zero] at c5 c6 c9 c10
  have HS := Lib.hid hS
  have hm : wrap64 (min g 10) = ((lg : Nat) : Int) := by rw [show min g 10 = (lg : Int) by omega, w64' (by omega) (by omega)]
  have HZ := Lib.hid (fun W => size_c (log := lg) (by omega) W)
  have hg1 : 0 < groups lg := by unfold groups; rw [if_pos h9]; exact Nat.pow_pos (by omega)
  have hz : (if groups lg = 0 then (0 : Int) else 7 + 9 * (groups lg : Int)) = 7 + 9 * (groups lg : Int) := if_neg (by omega)
  rw [hz] at HZ
  have hz0 : ((7 + 9 * (groups lg : Int)) == 0) = false := by rw [beq_eq_false_iff_ne]; omega
  have hz1 : 7 + 9 * (groups lg : Int) = 0 ↔ False := ⟨fun h => by omega, fun h => h.elim⟩
  clear hz hg1 h9 hgl
  clear hS h0 h1
  go_enter Tryd.func18, Tryd.ntmps18
  go_wp2_with fail
  refine (block_s oldest _).mono ?_
  rintro e w1 ⟨rfl, rfl⟩
  go_wp2_with fail
  refine (HZ.out _).mono ?_
  rintro e w2 ⟨rfl, n, rfl⟩
  go_wp2_with fail
  go_end0
  exact ⟨rfl, (by have hh := HS.out; unfold SwAt at hh ⊢; simp [World.setCell, drewN_heap, drew_heap, Array.getElem?_modify, hh]), ((((Fr.refl _ _).put (only_self _) _ _).put (only_self _) _ _).put (only_self _) _ _).drewN _⟩

set_option maxRecDepth 100000 in
set_option maxHeartbeats 4000000 in
theorem take8y (C : Cf) (t : St) (w : World) (sb : Nat) (oldest : Int) (thread : Nat) (link : Int) (log slot : Nat) (box : Int) (freed : Nat) (g : Int) (hS : SwAt C t w sb ⟨8, oldest, thread, link, log, slot, box, freed⟩) (h0 : 0 ≤ g) (h1 : g < 18446744073709551616) (hg : hld g = true) :
    Calls Tryd.prog 18 #[.pointer (some ⟨sb, 0, none⟩), .int .u64 g] w fun e w' => e = .returned (.tuple #[]) ∧ SwAt C t w' sb (⟨9, oldest, thread, link, log, slot, blk g, freed⟩) ∧ Fr (only sb) w w' := by
  have c5 := cell_of' hS 5
  have z5 := frozen_of' hS 5
  have c6 := cell_of' hS 6
  have z6 := frozen_of' hS 6
  simp only [List.getElem?_toArray, List.getElem?_cons_succ, List.getElem?_cons_zero] at c5 c6
  have HS := Lib.hid hS
  have HP := Lib.hid (passed_hold C t w sb ⟨8, oldest, thread, link, log, slot, box, freed⟩ g hS rfl h0 h1 hg)
  clear hS h0 h1
  go_enter Tryd.func18, Tryd.ntmps18
  go_wp2_with fail
  refine (block_s oldest _).mono ?_
  rintro e w1 ⟨rfl, rfl⟩
  go_wp2_with fail
  refine HP.out.mono ?_
  rintro e w2 ⟨rfl, hs2, hf2⟩
  go_wp2_with fail
  go_end0
  exact ⟨rfl, hs2, hf2⟩

set_option maxRecDepth 100000 in
set_option maxHeartbeats 4000000 in
theorem take8n (C : Cf) (t : St) (w : World) (sb : Nat) (oldest : Int) (thread : Nat) (link : Int) (log slot : Nat) (box : Int) (freed : Nat) (g : Int) (hS : SwAt C t w sb ⟨8, oldest, thread, link, log, slot, box, freed⟩) (h0 : 0 ≤ g) (h1 : g < 18446744073709551616) (hg : hld g = false) (hlog : log ≤ 9) (hslot : slot < 5000) :
    Calls Tryd.prog 18 #[.pointer (some ⟨sb, 0, none⟩), .int .u64 g] w fun e w' => e = .returned (.tuple #[]) ∧ SwAt C t w' sb (snext ⟨8, oldest, thread, link, log, slot, box, freed⟩) ∧ Fr (only sb) w w' := by
  have c5 := cell_of' hS 5
  have z5 := frozen_of' hS 5
  have c6 := cell_of' hS 6
  have z6 := frozen_of' hS 6
  simp only [List.getElem?_toArray, List.getElem?_cons_succ, List.getElem?_cons_zero] at c5 c6
  have HS := Lib.hid hS
  have HP := Lib.hid (passed_miss C t w sb oldest thread link log slot box freed g hS h0 h1 hg hlog hslot)
  clear hS h0 h1
  go_enter Tryd.func18, Tryd.ntmps18
  go_wp2_with fail
  refine (block_s oldest _).mono ?_
  rintro e w1 ⟨rfl, rfl⟩
  go_wp2_with fail
  refine HP.out.mono ?_
  rintro e w2 ⟨rfl, hs2, hf2⟩
  go_wp2_with fail
  go_end0
  exact ⟨rfl, hs2, hf2⟩

set_option maxRecDepth 100000 in
set_option maxHeartbeats 4000000 in
theorem take9 (C : Cf) (t : St) (w : World) (sb : Nat) (oldest : Int) (thread : Nat) (link : Int) (log slot : Nat) (box : Int) (freed : Nat) (g : Int) (hS : SwAt C t w sb ⟨9, oldest, thread, link, log, slot, box, freed⟩) (h0 : 0 ≤ g) (h1 : g < 18446744073709551616) (hlog : log ≤ 9) (hslot : slot < 5000) :
    Calls Tryd.prog 18 #[.pointer (some ⟨sb, 0, none⟩), .int .u64 g] w fun e w' => e = .returned (.tuple #[]) ∧ SwAt C t w' sb (snext ⟨9, oldest, thread, link, log, slot, box, freed⟩) ∧ Fr (only sb) w w' := by
  have c5 := cell_of' hS 5
  have z5 := frozen_of' hS 5
  have c6 := cell_of' hS 6
  have z6 := frozen_of' hS 6
  simp only [List.getElem?_toArray, List.getElem?_cons_succ, List.getElem?_cons_zero] at c5 c6
  have HS := Lib.hid hS
  have HP := Lib.hid (passed_jump C t w sb oldest thread link log slot box freed g hS hlog hslot)
  clear hS h0 h1
  go_enter Tryd.func18, Tryd.ntmps18
  go_wp2_with fail
  refine (block_s oldest _).mono ?_
  rintro e w1 ⟨rfl, rfl⟩
  go_wp2_with fail
  refine HP.out.mono ?_
  rintro e w2 ⟨rfl, hs2, hf2⟩
  go_wp2_with fail
  go_end0
  exact ⟨rfl, hs2, hf2⟩

set_option maxRecDepth 100000 in
set_option maxHeartbeats 4000000 in
theorem take10 (C : Cf) (t : St) (w : World) (sb : Nat) (oldest : Int) (thread : Nat) (link : Int) (log slot : Nat) (box : Int) (freed : Nat) (g : Int) (hS : SwAt C t w sb ⟨10, oldest, thread, link, log, slot, box, freed⟩) (h0 : 0 ≤ g) (h1 : g < 18446744073709551616) :
    Calls Tryd.prog 18 #[.pointer (some ⟨sb, 0, none⟩), .int .u64 g] w fun e w' => e = .returned (.tuple #[]) ∧ SwAt C t w' sb ⟨11, oldest, thread, link, log, slot, box, freed⟩ ∧ Fr (only sb) w w' := by
  have c5 := cell_of' hS 5
  have z5 := frozen_of' hS 5
  have c6 := cell_of' hS 6
  have z6 := frozen_of' hS 6
  simp only [List.getElem?_toArray, List.getElem?_cons_succ, List.getElem?_cons_zero] at c5 c6
  have HS := Lib.hid hS
  clear hS h0 h1
  go_enter Tryd.func18, Tryd.ntmps18
  go_wp2_with fail
  refine (block_s oldest _).mono ?_
  rintro e w1 ⟨rfl, rfl⟩
  go_wp2_with fail

  all_goals
    go_end0
    exact ⟨rfl, (by have hh := HS.out; unfold SwAt at hh ⊢; simp [World.setCell, drewN_heap, drew_heap, Array.getElem?_modify, hh]), (Fr.refl _ _).put (only_self _) _ _⟩
set_option maxRecDepth 100000 in
set_option maxHeartbeats 4000000 in
theorem take11 (C : Cf) (t : St) (w : World) (sb : Nat) (oldest : Int) (thread : Nat) (link : Int) (log slot : Nat) (box : Int) (freed : Nat) (g : Int) (hS : SwAt C t w sb ⟨11, oldest, thread, link, log, slot, box, freed⟩) (h0 : 0 ≤ g) (h1 : g < 18446744073709551616) (hf : freed < 1000000) :
    Calls Tryd.prog 18 #[.pointer (some ⟨sb, 0, none⟩), .int .u64 g] w fun e w' => e = .returned (.tuple #[]) ∧ SwAt C t w' sb ⟨1, oldest, thread, link, log, slot, box, freed + 1⟩ ∧ Fr (only sb) w w' := by
  have c5 := cell_of' hS 5
  have z5 := frozen_of' hS 5
  have c6 := cell_of' hS 6
  have z6 := frozen_of' hS 6
  have c12 := cell_of' hS 12
  have z12 := frozen_of' hS 12
  simp only [List.getElem?_toArray, List.getElem?_cons_succ, List.getElem?_cons_zero] at c5 c6 c12
  have HS := Lib.hid hS
  clear hS h0 h1
  go_enter Tryd.func18, Tryd.ntmps18
  go_wp2_with fail
  refine (block_s oldest _).mono ?_
  rintro e w1 ⟨rfl, rfl⟩
  go_wp2_with fail

  all_goals
    go_end0
    exact ⟨rfl, (by have hh := HS.out; unfold SwAt at hh ⊢; simp [World.setCell, drewN_heap, drew_heap, Array.getElem?_modify, hh]), ((Fr.refl _ _).put (only_self _) _ _).put (only_self _) _ _⟩
set_option maxRecDepth 100000 in
set_option maxHeartbeats 4000000 in
theorem take12 (C : Cf) (t : St) (w : World) (sb : Nat) (oldest : Int) (thread : Nat) (link : Int) (log slot : Nat) (box : Int) (freed : Nat) (g : Int) (hS : SwAt C t w sb ⟨12, oldest, thread, link, log, slot, box, freed⟩) (h0 : 0 ≤ g) (h1 : g < 18446744073709551616) :
    Calls Tryd.prog 18 #[.pointer (some ⟨sb, 0, none⟩), .int .u64 g] w fun e w' => e = .returned (.tuple #[]) ∧ SwAt C t w' sb ⟨12, oldest, thread, link, log, slot, box, freed⟩ ∧ Fr (only sb) w w' := by
  have c5 := cell_of' hS 5
  have z5 := frozen_of' hS 5
  have c6 := cell_of' hS 6
  have z6 := frozen_of' hS 6
  simp only [List.getElem?_toArray, List.getElem?_cons_succ, List.getElem?_cons_zero] at c5 c6
  have HS := Lib.hid hS
  clear hS h0 h1
  go_enter Tryd.func18, Tryd.ntmps18
  go_wp2_with fail
  refine (block_s oldest _).mono ?_
  rintro e w1 ⟨rfl, rfl⟩
  go_wp2_with fail

  all_goals
    go_end0
    exact ⟨rfl, HS.out, Fr.refl _ _⟩
end Go.Proofs.YtkoebhflbhpfnaaDoor.Fl
