/- flush: which sites may be (the desk's bounds are a package variable); slices.Clone of words. flush: who looks which boxes may be freed: what lies in memory; its act, its answer. flush: who looks which boxes may be freed: what its steps do to what lies in memory (no walk). A region that draws its order and makes no call of a Go function, inside the fence of a round: it may be walked without the fence; and a load may be taken first of whatever cell holds its value till a named store comes up that waits for the load. flush: who looks which boxes may be freed takes an answer. -/
import Derived.Test.YtkoebhflbhpfnaaDoorFlGb
import Derived.WalkSpells
import Derived.Laws.AppendOwnNone
import Derived.Laws.MakeOwn
import Derived.OwnWalk
import Derived.Maps.OwnOps
import Derived.Maps.OwnSet
import Derived.Maps.Views
import Derived.Deep.AppendLies
import Derived.Deep.RegionHeld3
import Derived.Deep.RegionLaw
import Derived.OrdersIn
import Derived.Deep.LoopGhost
import Derived.LoopTactic
namespace Go.Proofs.YtkoebhflbhpfnaaDoor.Fl
open Go.RowKit Bq Go.Proofs.YtkoebhflbhpfnaaDoorW.PrintWords Go.Proofs.YtkoebhflbhpfnaaDoorW.PrintLast Go.Proofs.YtkoebhflbhpfnaaDoorW.PrintMore
set_option linter.unusedVariables false
set_option linter.unusedSimpArgs false
/-- The desk's bounds, as they are laid. -/
def Dk (W : World) : Prop := 0 < W.heap.size ∧ W.cell? ⟨0, 0, none⟩ = some (.int .i64 1) ∧ W.cell? ⟨0, 1, none⟩ = some (.int .i64 64) ∧ W.cell? ⟨0, 2, none⟩ = some (.int .i64 1) ∧ W.cell? ⟨0, 3, none⟩ = some (.int .i64 64)
theorem Dk.below {W W' : World} (h : Dk W) (hb : Below W.heap.size W W') : Dk W' :=
  ⟨Nat.lt_of_lt_of_le h.1 hb.size, (hb.cell (p := ⟨_, 0, none⟩) h.1).trans h.2.1, (hb.cell (p := ⟨_, 1, none⟩) h.1).trans h.2.2.1, (hb.cell (p := ⟨_, 2, none⟩) h.1).trans h.2.2.2.1, (hb.cell (p := ⟨_, 3, none⟩) h.1).trans h.2.2.2.2⟩
def mayB (n : Int) : Bool := decide (1 ≤ n) && decide (n ≤ 64)
set_option maxHeartbeats 400000 in
theorem within_0 (n : Int) (w : World) (h : Dk w) : Calls Tryd.prog 22 #[.int .i64 0, .int .i64 n] w fun e w' => e = .returned (.bool (mayB n)) ∧ w' = w := by
  obtain ⟨_, c0, c1, _, _⟩ := h
  unfold mayB
  by_cases h1 : 1 ≤ n
  · have b1 : decide (1 ≤ n) = true := decide_eq_true h1
    rw [b1]
    go_enter Tryd.func22, Tryd.ntmps22
    go_wp2_with fail
    go_ret
    exact ⟨by simp, rfl⟩
  · have b1 : decide (1 ≤ n) = false := decide_eq_false h1
    rw [b1]
    go_enter Tryd.func22, Tryd.ntmps22
    go_wp2_with fail
    go_ret
    exact ⟨by simp, rfl⟩
set_option maxHeartbeats 400000 in
theorem within_1 (n : Int) (w : World) (h : Dk w) : Calls Tryd.prog 22 #[.int .i64 1, .int .i64 n] w fun e w' => e = .returned (.bool (mayB n)) ∧ w' = w := by
  obtain ⟨_, _, _, c0, c1⟩ := h
  unfold mayB
  by_cases h1 : 1 ≤ n
  · have b1 : decide (1 ≤ n) = true := decide_eq_true h1
    rw [b1]
    go_enter Tryd.func22, Tryd.ntmps22
    go_wp2_with fail
    go_ret
    exact ⟨by simp, rfl⟩
  · have b1 : decide (1 ≤ n) = false := decide_eq_false h1
    rw [b1]
    go_enter Tryd.func22, Tryd.ntmps22
    go_wp2_with fail
    go_ret
    exact ⟨by simp, rfl⟩
def siteB (d th ts ke : Int) : Bool := !(decide (d = 0)) && mayB ts && mayB ke && decide (0 ≤ th) && decide (th < ts)
def encS (d th ts ke se : Int) : Value := .agg #[.int .u64 d, .int .i64 th, .int .i64 ts, .int .i64 ke, .int .u64 se]
set_option maxHeartbeats 1000000 in
theorem right_any (d th ts ke se : Int) (w : World) (h : Dk w) : Calls Tryd.prog 12 #[encS d th ts ke se] w fun e w' => e = .returned (.bool (siteB d th ts ke)) ∧ Below w.heap.size w w' := by
  have hd0 : Dk (w.alloc (.cells #[.int .u64 d, .int .i64 th, .int .i64 ts, .int .i64 ke, .int .u64 se] 24)) := h.below ((Below.refl _ _).alloc (Nat.le_refl _) _)
  have H0 := Lib.hid (fun n => within_0 n _ hd0)
  have H1 := Lib.hid (fun n => within_1 n _ hd0)
  clear hd0 h
  unfold siteB encS
  go_enter Tryd.func12, Tryd.ntmps12
  go_wp2_with (first | (go_at_call 22; (with_reducible refine (H0.out _).mono ?_); rintro e w' ⟨rfl, rfl⟩) | (go_at_call 22; (with_reducible refine (H1.out _).mono ?_); rintro e w' ⟨rfl, rfl⟩))
  all_goals
    go_ret
    exact ⟨by first | (simp [*]; done) | (simp [*]; omega), (Below.refl _ _).alloc (Nat.le_refl _) _⟩
theorem info_w : (Tryd.prog.info? 22).map (fun i => (i.zero, i.size, i.bytes)) = some (some (.int .u64 0), 1, 8) := by kernel_rfl
/-- Words. -/
def ws (l : List Int) : List Value := l.map (Value.int .u64)
theorem ws_one {l : List Int} : ∀ u ∈ ws l, u.oneCell' = true := by
  intro u hu
  obtain ⟨x, _, rfl⟩ := List.mem_map.1 hu
  rfl
theorem ws_cells {w : World} {ad : Addr} {n : Nat} {l : List Int} (h : Kd.C (Kd.int .u64) w (some ad) n l) : ∀ j u, (ws l)[j]? = some u → w.cell? (ad.add j) = some u := by
  intro j u hu
  unfold ws at hu
  rw [List.getElem?_map] at hu
  obtain ⟨x, hx, rfl⟩ := Option.map_eq_some_iff.1 hu
  have hj := (List.getElem?_eq_some_iff.1 hx).1
  obtain ⟨hn, _, hc⟩ := h
  obtain ⟨ad', e, hc⟩ := hc (by omega)
  injection e with e
  subst e
  obtain ⟨c, hl, hr, hcell⟩ := hc j x hx
  have hr' : c = [Value.int .u64 x] := hr
  subst hr'
  have := hcell 0 (.int .u64 x) rfl
  simpa [show (Kd.int .u64).sz = 1 from rfl] using this
theorem owns_reads {w : World} {base : Nat} {A : Option Addr} {n c : Nat} {l : List Int} (h : w.ownsRow base 22 1 (.slice A n c) l.length (ws l)) (hm : l.length ≤ 9223372036854775807) : n = l.length ∧ Kd.C (Kd.int .u64) w A l.length l := by
  rcases h.2 with ⟨e, h0⟩ | ⟨g, cap, cur, e, hb, hg, h1, h2, h3, h4⟩
  · injection e with e1 e2 e3
    subst e1; subst e2
    refine ⟨h0.symm, rfl, hm, fun h => absurd h (by omega)⟩
  · injection e with e1 e2 e3
    subst e1; subst e2
    refine ⟨rfl, rfl, hm, fun _ => ⟨_, rfl, fun j x hx => ⟨[.int .u64 x], rfl, rfl, fun i u hu => ?_⟩⟩⟩
    have hi : i = 0 := by
      have := (List.getElem?_eq_some_iff.1 hu).1
      simp at this
      exact this
    subst hi
    have hu' : u = .int .u64 x := by simpa using hu.symm
    subst hu'
    have hcell := h.cells (g := g) rfl j (.int .u64 x) (by unfold ws; rw [List.getElem?_map, hx]; rfl)
    simpa [show (Kd.int .u64).sz = 1 from rfl] using hcell
set_option maxHeartbeats 1000000 in
theorem clone_any (A : Option Addr) (c : Nat) (l : List Int) (w : World) (h : Kd.C (Kd.int .u64) w A l.length l) (hl : l.length ≤ 1000000) :
    Calls Tryd.prog 23 #[.slice A l.length c] w fun e w' => (∃ v, e = .returned v ∧ w'.ownsRow w.heap.size 22 1 v l.length (ws l) ∧ Below w.heap.size w w') := by
  have hnil := fun W : World => Lib.run_eql_slice_nil (P := Tryd.prog) W 25 22 A l.length c 0 0 Tryd.underlying25
  cases A with
  | none =>
    have hlen : l.length = 0 := by
      rcases Nat.eq_zero_or_pos l.length with h0 | h0
      · exact h0
      · obtain ⟨ad, e, _⟩ := h.2.2 h0
        cases e
    obtain rfl := List.length_eq_zero_iff.1 hlen
    have hnil0 := fun W : World => Lib.run_eql_slice_nil (P := Tryd.prog) W 25 22 none 0 c 0 0 Tryd.underlying25
    clear h hlen
    go_enter Tryd.func23, Tryd.ntmps23
    go_wp2_with fail
    go_ret
    exact ⟨_, rfl, World.ownsRow_nil _ _ _ _, Below.refl _ _⟩
  | some ad =>
    have hc := ws_cells h
    obtain ⟨i0, hi, hz0, hz1, hz2⟩ := info_parts info_w
    have H := Lib.hid hc
    have HW := Lib.hid (World.ownsRow_made (base := w.heap.size) (e := 22) (size := 1) w #[] 0 (Nat.le_refl _) (by decide) rfl)
    clear h hc
    go_enter Tryd.func23, Tryd.ntmps23
    go_wp2_with (at_builtin; refine wpList_append_own _ rfl _ _ 25 rfl w.heap.size 22 i0 (.int .u64 0) 1 8 Tryd.underlying25 hi hz0 hz1 hz2 rfl (by decide) _ 0 [] rfl HW.out ad l.length c (ws l) rfl (by simp [ws]) ?c1 ws_one ?c3 ?c4 ?c5 ?_)
    case c1 =>
      intro j u hu
      have h1 := H.out j u hu
      exact (((Below.refl w.heap.size w).alloc (Nat.le_refl _) _).cell (p := ad.add j) (by simpa [Addr.add] using World.block_lt_of_cell? w _ h1)).trans h1
    case c3 => unfold maxLen; omega
    case c4 => omega
    case c5 => simp
    intro v' w' hown hgrow _
    go_wp2_with fail
    go_ret
    refine ⟨v', rfl, by simpa using hown, ?_⟩
    exact ⟨hgrow.os, hgrow.tape, hgrow.output, by have := hgrow.size; simp at this; omega, fun k hk => (hgrow.block k (by simp; omega) (by simp [Value.ownBlock]; omega)).trans (heap_alloc_old w _ hk)⟩
end Go.Proofs.YtkoebhflbhpfnaaDoor.Fl
namespace Go.Proofs.YtkoebhflbhpfnaaDoor.Fl
open Go.RowKit Bq Go.Proofs.YtkoebhflbhpfnaaDoorW.PrintWords Go.Proofs.YtkoebhflbhpfnaaDoorW.PrintLast Go.Proofs.YtkoebhflbhpfnaaDoorW.PrintMore
set_option linter.unusedVariables false
set_option linter.unusedSimpArgs false
def lookB (kept : List Int) : Bool := decide (0 < kept.length)
/-- The looker's block. -/
def RBlk (C : Cf) (t : St) (w : World) (rb mb : Nat) (wv rv : Value) (r : RS) : Prop :=
  w.heap[rb]? = some (.cells #[.int .u64 C.desk, .int .i64 t.th, .int .i64 C.threads, .int .i64 t.ke, .int .u64 t.se, .bool true, .bool (lookB C.kept), .int .i64 r.told.length, wv, .int .i64 r.at_, .map (some mb), rv] 58 (0, 0))
abbrev OwnF (w : World) (mb n : Nat) (D : DataW Unit) : Prop := w.ownsMap Tryd.prog 22 (plainElem Tryd.prog 3) mb n D
/-- What the map says. -/
def Says (kept told : List Int) (D : DataW Unit) : Prop := ∀ k ∈ kept, D.atKey (.int .u64 k) (.lit (.int .i64 0)) = .lit (.int .i64 (if k ∈ told then 0 else 1))
/-- The looker lies at block rb; all that is its own lies from block B on. -/
structure RAt (C : Cf) (t : St) (B : Nat) (w : World) (rb mb : Nat) (wv rv : Value) (r : RS) : Prop where
  blk : RBlk C t w rb mb wv rv r
  wait : w.ownsRow B 22 1 wv C.kept.length (ws C.kept)
  row : w.ownsRow B 22 1 rv r.rest.length (ws r.rest)
  map : ∃ D, OwnF w mb C.kept.length D ∧ Says C.kept r.told D
  lo : B ≤ rb ∧ B ≤ mb ∧ mb < w.heap.size
  ne : rb ≠ mb ∧ wv.ownBlock ≠ some rb ∧ wv.ownBlock ≠ some mb ∧ rv.ownBlock ≠ some rb ∧ rv.ownBlock ≠ some mb ∧ (∀ k, wv.ownBlock = some k → rv.ownBlock ≠ some k)
  le : r.at_ ≤ C.kept.length ∧ r.told.length ≤ C.threads ∧ r.rest.length ≤ r.at_
/-- What stays as it is of the site. -/
structure COk (C : Cf) : Prop where
  th : 1 ≤ C.threads ∧ C.threads ≤ 64
  kept : C.kept.length ≤ 1000
  word : ∀ k ∈ C.kept, 0 ≤ k ∧ k < 18446744073709551616
theorem RBlk.lt {C : Cf} {t : St} {w : World} {rb mb : Nat} {wv rv : Value} {r : RS} (h : RBlk C t w rb mb wv rv r) : rb < w.heap.size := (Array.getElem?_eq_some_iff.1 h).1
theorem own_form {w : World} {B : Nat} {v : Value} {l : List Int} (h : w.ownsRow B 22 1 v l.length (ws l)) : ∃ A c, v = .slice A l.length c := by
  rcases h.2 with ⟨e, h0⟩ | ⟨g, cap, cur, e, _⟩
  · exact ⟨none, 0, by rw [h0]; exact e⟩
  · exact ⟨_, _, e⟩
theorem own_cell {w : World} {B : Nat} {v : Value} {l : List Int} (h : w.ownsRow B 22 1 v l.length (ws l)) {i : Nat} {k : Int} (hk : l[i]? = some k) : ∃ g c, v = .slice (some ⟨g, 0, none⟩) l.length c ∧ w.cell? ⟨g, i, none⟩ = some (.int .u64 k) := by
  have hi := (List.getElem?_eq_some_iff.1 hk).1
  obtain ⟨g, c, e, _, _⟩ := h.form (by omega)
  refine ⟨g, c, e, ?_⟩
  have := h.cells (g := g) (by rw [e]; rfl) i (.int .u64 k) (by unfold ws; rw [List.getElem?_map, hk]; rfl)
  have hadd : (⟨g, 0, none⟩ : Addr).add i = ⟨g, i, none⟩ := by unfold Addr.add; split <;> simp_all
  rw [hadd] at this
  exact this
theorem own_below {w w' : World} {B : Nat} {v : Value} {n : Nat} {xs : List Value} (h : w.ownsRow B 22 1 v n xs) (hb : Below w.heap.size w w') : w'.ownsRow B 22 1 v n xs :=
  h.kept (row := none) ⟨hb.os, hb.tape, hb.output, hb.size, fun k hk _ => hb.block k hk⟩ (by cases v.ownBlock <;> simp)
theorem RAt.below {C : Cf} {t : St} {B : Nat} {w w' : World} {rb mb : Nat} {wv rv : Value} {r : RS} (h : RAt C t B w rb mb wv rv r) (hb : Below w.heap.size w w') : RAt C t B w' rb mb wv rv r := by
  obtain ⟨D, hm, hs⟩ := h.map
  exact ⟨(hb.block rb h.blk.lt).trans h.blk, own_below h.wait hb, own_below h.row hb, ⟨D, hm.kept (row := none) ⟨hb.os, hb.tape, hb.output, hb.size, fun k hk _ => hb.block k hk⟩ (by simp), hs⟩, ⟨h.lo.1, h.lo.2.1, Nat.lt_of_lt_of_le h.lo.2.2 hb.size⟩, h.ne, h.le⟩
theorem cell_s {i : Nat} (h : i < 64) (w : World) : Calls Tryd.prog 47 #[.int .i64 i, .int .i64 1] w fun e w' => e = .returned (.int .i64 (2 + 2 * (i : Int) + 1)) ∧ w' = w := by
  have b1 : decide ((i : Int) < 0) = false := decide_eq_false (by omega)
  have b2 : decide (64 ≤ (i : Int)) = false := decide_eq_false (by omega)
  go_enter Tryd.func47, Tryd.ntmps47
  go_wp2_with fail
  go_ret
  exact ⟨rfl, rfl⟩
theorem box_cell_s {i : Nat} (h : i < 64) (w : World) : Calls Tryd.prog 24 #[.int .i64 i] w fun e w' => e = .returned (.int .i64 (3 + 2 * (i : Int))) ∧ w' = w := by
  have HC := Lib.hid (cell_s h w)
  have hs : 3 + 2 * (i : Int) = 2 + 2 * (i : Int) + 1 := by omega
  rw [hs]
  clear hs
  go_enter Tryd.func24, Tryd.ntmps24
  go_wp2_with fail
  refine HC.out.mono ?_
  rintro e w' ⟨rfl, rfl⟩
  go_wp2_with fail
  go_ret
  exact ⟨rfl, rfl⟩
theorem five_below {B : Nat} {w W : World} (h : Below B w W) {g : Nat} (hg : B ≤ g) (u0 u1 u2 u3 u4 : Value) : Below B w (((((W.setCell ⟨g, 0, none⟩ u0).setCell ⟨g, 1, none⟩ u1).setCell ⟨g, 2, none⟩ u2).setCell ⟨g, 3, none⟩ u3).setCell ⟨g, 4, none⟩ u4) :=
  below_sc (below_sc (below_sc (below_sc (below_sc h hg _ _) hg _ _) hg _ _) hg _ _) hg _ _
set_option maxRecDepth 100000 in
set_option maxHeartbeats 1000000 in
theorem ract_idle (C : Cf) (t : St) (w : World) (B rb mb : Nat) (wv rv : Value) (r : RS) (hR : RAt C t B w rb mb wv rv r) (hn : C.kept = []) :
    Calls Tryd.prog 15 #[.pointer (some ⟨rb, 0, none⟩)] w fun e w' => e = .returned (encO none) ∧ Below w.heap.size w w' := by
  obtain ⟨A, cp, hwv⟩ := own_form hR.wait
  have hB := hR.blk
  have hlt := hB.lt
  have hle := hR.le
  clear hR
  unfold RBlk at hB
  rw [hwv] at hB
  have c2 := cell_of' hB 2
  have c6 := cell_of' hB 6
  have c7 := cell_of' hB 7
  have c8 := cell_of' hB 8
  have c9 := cell_of' hB 9
  simp only [List.getElem?_toArray, List.getElem?_cons_succ, List.getElem?_cons_zero] at c2 c6 c7 c8 c9
  have hl : lookB C.kept = false := by unfold lookB; rw [hn]; rfl
  rw [hl] at c6
  clear hl hn hle hB c2 c7 c8 c9
  go_enter Tryd.func15, Tryd.ntmps15
  go_wp2_with fail
  exact ⟨rfl, _, ret_act rfl (heap_alloc_new w _) rfl rfl, rfl, (Below.refl _ _).alloc (Nat.le_refl _) _⟩
set_option maxRecDepth 100000 in
set_option maxHeartbeats 1000000 in
theorem ract_over (C : Cf) (t : St) (w : World) (B rb mb : Nat) (wv rv : Value) (r : RS) (hR : RAt C t B w rb mb wv rv r) (hk : C.kept ≠ []) (h1 : ¬ r.told.length < C.threads) (h2 : ¬ r.at_ < C.kept.length) :
    Calls Tryd.prog 15 #[.pointer (some ⟨rb, 0, none⟩)] w fun e w' => e = .returned (encO none) ∧ Below w.heap.size w w' := by
  obtain ⟨A, cp, hwv⟩ := own_form hR.wait
  have hB := hR.blk
  have hlt := hB.lt
  have hle := hR.le
  clear hR
  unfold RBlk at hB
  rw [hwv] at hB
  have c2 := cell_of' hB 2
  have c6 := cell_of' hB 6
  have c7 := cell_of' hB 7
  have c8 := cell_of' hB 8
  have c9 := cell_of' hB 9
  simp only [List.getElem?_toArray, List.getElem?_cons_succ, List.getElem?_cons_zero] at c2 c6 c7 c8 c9
  have hl : lookB C.kept = true := by unfold lookB; exact decide_eq_true (by cases h : C.kept with | nil => exact absurd h hk | cons a b => simp)
  rw [hl] at c6
  have b1 : decide (r.told.length < C.threads) = false := decide_eq_false (by omega)
  have b2 : decide (r.at_ < C.kept.length) = false := decide_eq_false (by omega)
  clear hl hk hle hB h1 h2
  go_enter Tryd.func15, Tryd.ntmps15
  go_wp2_with fail
  go_quiet (fail)
  go_wp2_with fail
  go_quiet (fail)
  go_wp2_with fail
  exact ⟨rfl, _, ret_act rfl (set5 (w := (w.alloc _).drewN _) (heap_alloc_new w _) _ _ _ _ _) rfl rfl, rfl, five_below (dn' ((Below.refl _ _).alloc (Nat.le_refl _) _) _) (Nat.le_refl _) _ _ _ _ _⟩
set_option maxRecDepth 100000 in
set_option maxHeartbeats 1000000 in
theorem ract_load (C : Cf) (t : St) (w : World) (B rb mb : Nat) (wv rv : Value) (r : RS) (hR : RAt C t B w rb mb wv rv r) (hk : C.kept ≠ []) (h1 : r.told.length < C.threads) (h64 : C.threads ≤ 64) :
    Calls Tryd.prog 15 #[.pointer (some ⟨rb, 0, none⟩)] w fun e w' => e = .returned (encO (some ⟨1, C.desk, 3 + 2 * (r.told.length : Int), 0, 0⟩)) ∧ Below w.heap.size w w' := by
  obtain ⟨A, cp, hwv⟩ := own_form hR.wait
  have hB := hR.blk
  have hlt := hB.lt
  have hle := hR.le
  clear hR
  unfold RBlk at hB
  rw [hwv] at hB
  have c2 := cell_of' hB 2
  have c6 := cell_of' hB 6
  have c7 := cell_of' hB 7
  have c8 := cell_of' hB 8
  have c9 := cell_of' hB 9
  simp only [List.getElem?_toArray, List.getElem?_cons_succ, List.getElem?_cons_zero] at c2 c6 c7 c8 c9
  have c0 := cell_of' hB 0
  simp only [List.getElem?_toArray, List.getElem?_cons_zero] at c0
  have hl : lookB C.kept = true := by unfold lookB; exact decide_eq_true (by cases h : C.kept with | nil => exact absurd h hk | cons a b => simp)
  rw [hl] at c6
  have b1 : decide (r.told.length < C.threads) = true := decide_eq_true (by omega)
  have HN := Lib.hid (show r.told.length < 64 by omega)
  clear hl hk hle hB h1 h64
  go_enter Tryd.func15, Tryd.ntmps15
  go_wp2_with fail
  go_quiet (fail)
  go_wp2_with fail
  generalize hW : World.drewN _ _ = W1
  have hb1 : Below w.heap.size w W1 := by rw [← hW]; first | exact dn' ((Below.refl _ _).alloc (Nat.le_refl _) _) _ | exact dn' (dn' ((Below.refl _ _).alloc (Nat.le_refl _) _) _) _
  have hx1 : W1.heap[w.heap.size]? = some (.cells #[.int .i64 0, .int .u64 0, .int .i64 0, .int .u64 0, .int .u64 0] 31 (0, 0)) := by rw [← hW]; exact heap_alloc_new w _
  have HX1 := Lib.hid hx1
  have e0 := cell_of' hx1 0
  have e1 := cell_of' hx1 1
  have e2 := cell_of' hx1 2
  have e3 := cell_of' hx1 3
  have e4 := cell_of' hx1 4
  have z0 := frozen_of' hx1 0
  have z1 := frozen_of' hx1 1
  have z2 := frozen_of' hx1 2
  have z3 := frozen_of' hx1 3
  have z4 := frozen_of' hx1 4
  simp only [List.getElem?_toArray, List.getElem?_cons_succ, List.getElem?_cons_zero] at e0 e1 e2 e3 e4
  have q0 := (hb1.cell (p := ⟨rb, 0, none⟩) hlt).trans c0
  have q7 := (hb1.cell (p := ⟨rb, 7, none⟩) hlt).trans c7
  have HB1 := Lib.hid hb1
  clear hb1 hx1 hW c0 c2 c6 c7 c8 c9
  have HW := Lib.hid (box_cell_s HN.out W1.drew)
  refine wp_region_still_tail 11 (by kernel_rfl) (by kernel_rfl) ?_
  simp only [List.take_succ_cons, List.take_zero, List.drop_succ_cons, List.drop_zero]
  repeat still_step
  still_call HW.out
  repeat still_step
  refine wpStill_nil ?_
  change wpList _ _ _ _ _ W1.drew
  go_wp2_with fail
  exact ⟨rfl, _, ret_act rfl (set5d HX1.out _ _ _ _ _) rfl rfl, rfl, (five_below HB1.out (Nat.le_refl _) _ _ _ _ _).drew⟩
set_option maxRecDepth 100000 in
set_option maxHeartbeats 1000000 in
theorem ract_frees (C : Cf) (t : St) (w : World) (B rb mb : Nat) (wv rv : Value) (r : RS) (hR : RAt C t B w rb mb wv rv r) (hk : C.kept ≠ []) (h1 : ¬ r.told.length < C.threads) (k : Int) (hat : C.kept[r.at_]? = some k) (hkl : C.kept.length ≤ 1000) :
    Calls Tryd.prog 15 #[.pointer (some ⟨rb, 0, none⟩)] w fun e w' => e = .returned (encO (some ⟨6, k, 0, 0, 0⟩)) ∧ Below w.heap.size w w' := by
  obtain ⟨gw, cw, hw0, hcell⟩ := own_cell hR.wait hat
  have h2 := (List.getElem?_eq_some_iff.1 hat).1
  have hB := hR.blk
  have hlt := hB.lt
  have hle := hR.le
  clear hR
  unfold RBlk at hB
  rw [hw0] at hB
  have c2 := cell_of' hB 2
  have c6 := cell_of' hB 6
  have c7 := cell_of' hB 7
  have c8 := cell_of' hB 8
  have c9 := cell_of' hB 9
  simp only [List.getElem?_toArray, List.getElem?_cons_succ, List.getElem?_cons_zero] at c2 c6 c7 c8 c9
  have hl : lookB C.kept = true := by unfold lookB; exact decide_eq_true (by cases h : C.kept with | nil => exact absurd h hk | cons a b => simp)
  rw [hl] at c6
  have b1 : decide (r.told.length < C.threads) = false := decide_eq_false (by omega)
  have b2 : decide (r.at_ < C.kept.length) = true := decide_eq_true (by omega)
  have i0 : (0 : Int) ≤ (r.at_ : Int) := by omega
  have i1 : (r.at_ : Int) < (C.kept.length : Int) := by omega
  have i2 : (r.at_ : Int) ≤ 1000 := by omega
  have hlw := World.block_lt_of_cell? w _ hcell
  dsimp only at hlw
  clear hl hk hle hB h1 hat
  go_enter Tryd.func15, Tryd.ntmps15
  go_wp2_with fail
  go_quiet (fail)
  go_wp2_with fail
  go_quiet (fail)
  go_wp2_with fail
  generalize hW : World.drewN _ _ = W1
  have hb1 : Below w.heap.size w W1 := by rw [← hW]; first | exact dn' ((Below.refl _ _).alloc (Nat.le_refl _) _) _ | exact dn' (dn' ((Below.refl _ _).alloc (Nat.le_refl _) _) _) _
  have hx1 : W1.heap[w.heap.size]? = some (.cells #[.int .i64 0, .int .u64 0, .int .i64 0, .int .u64 0, .int .u64 0] 31 (0, 0)) := by rw [← hW]; exact heap_alloc_new w _
  have HX1 := Lib.hid hx1
  have e0 := cell_of' hx1 0
  have e1 := cell_of' hx1 1
  have e2 := cell_of' hx1 2
  have e3 := cell_of' hx1 3
  have e4 := cell_of' hx1 4
  have z0 := frozen_of' hx1 0
  have z1 := frozen_of' hx1 1
  have z2 := frozen_of' hx1 2
  have z3 := frozen_of' hx1 3
  have z4 := frozen_of' hx1 4
  simp only [List.getElem?_toArray, List.getElem?_cons_succ, List.getElem?_cons_zero] at e0 e1 e2 e3 e4
  have q8 := (hb1.cell (p := ⟨rb, 8, none⟩) hlt).trans c8
  have q9 := (hb1.cell (p := ⟨rb, 9, none⟩) hlt).trans c9
  have qk := (hb1.cell (p := ⟨gw, r.at_, none⟩) hlw).trans hcell
  have HB1 := Lib.hid hb1
  clear hb1 hx1 hW c2 c6 c7 c8 c9 hcell
  refine wp_region_still_tail 11 (by kernel_rfl) (by kernel_rfl) ?_
  simp only [List.take_succ_cons, List.take_zero, List.drop_succ_cons, List.drop_zero]
  repeat still_step
  refine wpStill_nil ?_
  change wpList _ _ _ _ _ W1.drew
  go_wp2_with fail
  exact ⟨rfl, _, ret_act rfl (set5d HX1.out _ _ _ _ _) rfl rfl, rfl, (five_below HB1.out (Nat.le_refl _) _ _ _ _ _).drew⟩
theorem ract_any (C : Cf) (hC : COk C) (t : St) (w : World) (B rb mb : Nat) (wv rv : Value) (r : RS) (hR : RAt C t B w rb mb wv rv r) :
    Calls Tryd.prog 15 #[.pointer (some ⟨rb, 0, none⟩)] w fun e w' => e = .returned (encO (ract C.desk C.threads C.kept r)) ∧ Below w.heap.size w w' := by
  unfold ract
  by_cases hk : C.kept = []
  · rw [if_pos hk]
    exact ract_idle C t w B rb mb wv rv r hR hk
  · rw [if_neg hk]
    by_cases h1 : r.told.length < C.threads
    · rw [if_pos h1]
      exact ract_load C t w B rb mb wv rv r hR hk h1 hC.th.2
    · rw [if_neg h1]
      cases hat : C.kept[r.at_]? with
      | none => exact ract_over C t w B rb mb wv rv r hR hk h1 (by have := List.getElem?_eq_none_iff.1 hat; omega)
      | some k => exact ract_frees C t w B rb mb wv rv r hR hk h1 k hat hC.kept
end Go.Proofs.YtkoebhflbhpfnaaDoor.Fl
namespace Go.Proofs.YtkoebhflbhpfnaaDoor.Fl
open Go.RowKit Bq Go.Proofs.YtkoebhflbhpfnaaDoorW.PrintWords Go.Proofs.YtkoebhflbhpfnaaDoorW.PrintLast Go.Proofs.YtkoebhflbhpfnaaDoorW.PrintMore
set_option linter.unusedVariables false
set_option linter.unusedSimpArgs false
/-- What a look may write. -/
def RSet (rb mb : Nat) (rv : Value) : Nat → Prop := fun k => k = rb ∨ k = mb ∨ rv.ownBlock = some k
/-- The row is where it was, or in a new block. -/
def Nx (w : World) (rv rv1 : Value) : Prop := rv1.ownBlock = rv.ownBlock ∨ ∃ g, rv1.ownBlock = some g ∧ w.heap.size ≤ g
theorem Nx.refl (w : World) (rv : Value) : Nx w rv rv := Or.inl rfl
theorem Nx.trans {w w1 : World} {a b c : Value} (h : Nx w a b) (g : Nx w1 b c) (hs : w.heap.size ≤ w1.heap.size) : Nx w a c := by
  rcases g with g | ⟨k, g1, g2⟩
  · rcases h with h | ⟨k, h1, h2⟩
    · exact Or.inl (g.trans h)
    · exact Or.inr ⟨k, g.trans h1, h2⟩
  · exact Or.inr ⟨k, g1, Nat.le_trans hs g2⟩
theorem Fr.next {rb mb : Nat} {rv rv1 : Value} {w w1 w2 : World} (h : Fr (RSet rb mb rv) w w1) (hn : Nx w rv rv1) (g : Fr (RSet rb mb rv1) w1 w2) : Fr (RSet rb mb rv) w w2 :=
  ⟨g.os.trans h.os, g.tape.trans h.tape, g.output.trans h.output, Nat.le_trans h.size g.size, fun k hk h1 => (g.block k (Nat.lt_of_lt_of_le hk h.size) (fun hq => by
    rcases hq with hq | hq | hq
    · exact h1 (Or.inl hq)
    · exact h1 (Or.inr (Or.inl hq))
    · rcases hn with e | ⟨j, e, hj⟩
      · exact h1 (Or.inr (Or.inr (e.symm.trans hq)))
      · rw [e] at hq; injection hq with hq; omega)).trans (h.block k hk h1)⟩
theorem Fr.grown {S : Nat → Prop} {w w' : World} {row : Option Nat} (h : w.grownBy w' row) (hr : ∀ k, row = some k → S k) : Fr S w w' :=
  ⟨h.os, h.tape, h.output, h.size, fun k hk hs => h.block k hk (fun e => hs (hr k e.symm))⟩
theorem own_fr {w w' : World} {S : Nat → Prop} {B : Nat} {v : Value} {n : Nat} {xs : List Value} (h : w.ownsRow B 22 1 v n xs) (hf : Fr S w w') (hs : ∀ k, v.ownBlock = some k → ¬ S k) : w'.ownsRow B 22 1 v n xs := by
  refine ⟨h.1, ?_⟩
  rcases h.2 with hn | ⟨g, cap, cur, e, hb, hg, hr⟩
  · exact Or.inl hn
  · exact Or.inr ⟨g, cap, cur, e, hb, (hf.block g (Array.getElem?_eq_some_iff.1 hg).1 (hs g (by rw [e]; rfl))).trans hg, hr⟩
theorem map_fr {w w' : World} {S : Nat → Prop} {mb n : Nat} {D : DataW Unit} (h : OwnF w mb n D) (hf : Fr S w w') (hs : ¬ S mb) : OwnF w' mb n D := by
  obtain ⟨es, clock, hb, r⟩ := h
  exact ⟨es, clock, (hf.block mb (Array.getElem?_eq_some_iff.1 hb).1 hs).trans hb, r⟩
section
variable {C : Cf} {t : St} {B : Nat} {w : World} {rb mb : Nat} {wv rv : Value} {r : RS}
/-- The looker's own block is written anew. -/
theorem RAt.blk' (h : RAt C t B w rb mb wv rv r) {w' : World} {r' : RS} (hf : Fr (only rb) w w') (hb : RBlk C t w' rb mb wv rv r') (hm : r'.told = r.told ∨ ∃ D, OwnF w mb C.kept.length D ∧ Says C.kept r'.told D) (hr : r'.rest = r.rest)
    (hle : r'.at_ ≤ C.kept.length ∧ r'.told.length ≤ C.threads ∧ r'.rest.length ≤ r'.at_) : RAt C t B w' rb mb wv rv r' := by
  obtain ⟨D, hD, hS⟩ := h.map
  refine ⟨hb, own_fr h.wait hf (fun k hk e => h.ne.2.1 (by rw [hk, e])), ?_, ?_, ⟨h.lo.1, h.lo.2.1, Nat.lt_of_lt_of_le h.lo.2.2 hf.size⟩, h.ne, hle⟩
  · rw [hr]; exact own_fr h.row hf (fun k hk e => h.ne.2.2.2.1 (by rw [hk, e]))
  · rcases hm with hm | ⟨D', hD', hS'⟩
    · exact ⟨D, map_fr hD hf (fun e => h.ne.1 e.symm), by rw [hm]; exact hS⟩
    · exact ⟨D', map_fr hD' hf (fun e => h.ne.1 e.symm), hS'⟩
theorem RAt.setAt (h : RAt C t B w rb mb wv rv r) (i : Nat) (hi : r.rest.length ≤ i ∧ i ≤ C.kept.length) : RAt C t B (w.setCell ⟨rb, 9, none⟩ (.int .i64 i)) rb mb wv rv { r with at_ := i } := by
  refine h.blk' (Fr.set w (only_self _) _ _) ?_ (Or.inl rfl) rfl ⟨hi.2, h.le.2.1, hi.1⟩
  have := set1 h.blk 9 (.int .i64 i)
  unfold RBlk
  simpa using this
theorem RAt.setThr (h : RAt C t B w rb mb wv rv r) {told' : List Int} (hl : told'.length ≤ C.threads) (hm : ∃ D, OwnF w mb C.kept.length D ∧ Says C.kept told' D) : RAt C t B (w.setCell ⟨rb, 7, none⟩ (.int .i64 told'.length)) rb mb wv rv { r with told := told' } := by
  refine h.blk' (Fr.set w (only_self _) _ _) ?_ (Or.inr hm) rfl ⟨h.le.1, hl, h.le.2.2⟩
  have := set1 h.blk 7 (.int .i64 told'.length)
  unfold RBlk
  simpa using this
/-- What was answered is taken out of the map. -/
theorem says_del {kept told : List Int} {D : DataW Unit} (h : Says kept told D) (g : Int) : Says kept (told ++ [g]) (D.del (.int .u64 g)) := by
  intro k hk
  by_cases e : k = g
  · subst e
    rw [Maps.atKey_del_same, if_pos (by simp)]
  · rw [Maps.atKey_del_other (by intro e'; injection e' with _ e'; exact e e'), h k hk]
    by_cases hq : k ∈ told
    · rw [if_pos hq, if_pos (by simp [hq])]
    · rw [if_neg hq, if_neg (by simp [hq, e])]
/-- The row has grown by a word. -/
theorem RAt.app (h : RAt C t B w rb mb wv rv r) {w1 : World} {g cap : Nat} {k : Int} (hown : w1.ownsRow B 22 1 (.slice (some ⟨g, 0, none⟩) (r.rest.length + 1) cap) (r.rest.length + 1) (ws r.rest ++ [.int .u64 k]))
    (hf : Fr (fun j => rv.ownBlock = some j) w w1) (hat : rv.ownBlock = some g ∨ w.heap.size ≤ g) (hlt : r.at_ < C.kept.length) :
    RAt C t B ((w1.setCell ⟨rb, 11, none⟩ (.slice (some ⟨g, 0, none⟩) (r.rest.length + 1) cap)).setCell ⟨rb, 9, none⟩ (.int .i64 ((r.at_ + 1 : Nat) : Int))) rb mb wv (.slice (some ⟨g, 0, none⟩) (r.rest.length + 1) cap) ⟨r.told, r.at_ + 1, r.rest ++ [k]⟩ := by
  obtain ⟨D, hD, hS⟩ := h.map
  have hrb : ¬ rv.ownBlock = some rb := h.ne.2.2.2.1
  have hb1 : RBlk C t w1 rb mb wv rv r := (hf.block rb h.blk.lt hrb).trans h.blk
  have hgr : g ≠ rb := by
    rcases hat with e | e
    · rintro rfl; exact hrb e
    · have := h.blk.lt; omega
  have hgm : g ≠ mb := by
    rcases hat with e | e
    · rintro rfl; exact h.ne.2.2.2.2.1 e
    · have := h.lo.2.2; omega
  have hgw : ∀ j, wv.ownBlock = some j → j ≠ g := by
    intro j hj e
    rcases hat with e' | e'
    · exact h.ne.2.2.2.2.2 j hj (by rw [e']; rw [e])
    · have := (h.wait.lt j hj).2; omega
  have hset : Fr (only rb) w1 ((w1.setCell ⟨rb, 11, none⟩ (.slice (some ⟨g, 0, none⟩) (r.rest.length + 1) cap)).setCell ⟨rb, 9, none⟩ (.int .i64 ((r.at_ + 1 : Nat) : Int))) := ((Fr.refl _ _).put (only_self _) _ _).put (only_self _) _ _
  refine ⟨?_, ?_, ?_, ⟨D, ?_, hS⟩, ⟨h.lo.1, h.lo.2.1, Nat.lt_of_lt_of_le (Nat.lt_of_lt_of_le h.lo.2.2 hf.size) hset.size⟩, ⟨h.ne.1, h.ne.2.1, h.ne.2.2.1, ?_, ?_, ?_⟩, ⟨hlt, h.le.2.1, ?_⟩⟩
  · unfold RBlk at hb1 ⊢
    have := set1 (set1 hb1 11 (.slice (some ⟨g, 0, none⟩) (r.rest.length + 1) cap)) 9 (.int .i64 ((r.at_ + 1 : Nat) : Int))
    simpa using this
  · exact own_fr (own_fr h.wait hf (fun j hj e => h.ne.2.2.2.2.2 j hj e)) hset (fun j hj e => h.ne.2.1 (by rw [hj]; exact congrArg some e))
  · have e1 : (r.rest ++ [k]).length = r.rest.length + 1 := by simp
    have e2 : ws (r.rest ++ [k]) = ws r.rest ++ [.int .u64 k] := by simp [ws]
    show World.ownsRow _ B _ 1 _ (r.rest ++ [k]).length (ws (r.rest ++ [k]))
    rw [e1, e2]
    exact own_fr hown hset (fun j hj e => by
      simp [Value.ownBlock] at hj
      subst hj
      exact hgr e)
  · exact map_fr (map_fr hD hf h.ne.2.2.2.2.1) hset (fun e => h.ne.1 e.symm)
  · simp [Value.ownBlock, hgr]
  · simp [Value.ownBlock, hgm]
  · intro j hj
    simp [Value.ownBlock]
    exact fun e => hgw j hj e.symm
  · have := h.le.2.2
    simp
    omega
end
theorem keyedW : Go.Maps.Keyed Tryd.prog 22 := Go.Maps.int_keyed Tryd.underlying22
theorem zeroI (w : World) : (zeroValue 3).run Tryd.prog w = .ok (.int .i64 0) w := by kernel_rfl
theorem keyW {g : Int} (h0 : 0 ≤ g) (h1 : g < 18446744073709551616) : keyOf Tryd.prog 22 (.int .u64 g) = some (.int .u64 g) := Go.Maps.keyOf_int_mk Tryd.underlying22 (by
  simp [Lit.wf, IntKind.min, IntKind.max, IntKind.signed, IntKind.bits]
  omega)
end Go.Proofs.YtkoebhflbhpfnaaDoor.Fl
namespace Go.Proofs.YtkoebhflbhpfnaaDoor.Rr
open Go
set_option linter.unusedVariables false
set_option linter.unusedSimpArgs false
def plainOp : Op → Bool
  | .move _ | .assign _ | .buildSlice .. | .load .. | .store .. | .fieldAddr .. | .nilCheck _ => true
  | .call { callee := .builtin .append, .. } => true
  | _ => false
theorem plain_wp {F : Fence} {n : Nat} {P : Program} {o : Oper} {a : Act} {w : World} {K : Act → World → Prop} {Q : Exit → Act → World → Prop} (h : plainOp o.op = true) (hh : o.wp P a w K Q) : o.wpIn F n P a w K Q := by
  have hnd : ∀ c, o.op ≠ .defer c := fun c e => by rw [e] at h; cases h
  have hab : ∀ f, o.about P w a.eval = some f → F.fn f := fun f hf => by
    unfold Oper.about at hf
    split at hf
    · next c hc =>
      rw [hc] at h
      obtain ⟨callee, args, types⟩ := c
      unfold plainOp at h
      split at h <;> try (cases h; done)
      all_goals (rename_i e; first | (cases e; done) | skip)
      all_goals (injection e with e; injection e with e1 e2 e3; subst e1; simp [resolve, Target.leads] at hf)
    · cases hf
  refine ⟨hab, ?_⟩
  rw [Oper.semAt_eq F.round a.eval o hnd]
  unfold Oper.wp at hh
  have hne : ∀ x w', (execOp a.eval o).run P w = .ok x w' → (∃ v, x = .value v) ∨ x = .skip := fun x w' hx => by
    unfold plainOp at h
    split at h
    all_goals first
      | (cases h; done)
      | (rename_i e
         simp only [execOp, e, resolve, invoke, builtin, Sem.run_bind, Sem.run_pure, Result.andThen_ok] at hx
         first
           | (cases hx; exact Or.inl ⟨_, rfl⟩)
           | (revert hx
              generalize Sem.run P _ w = r
              intro hx
              cases r with
              | halt q w2 => cases hx
              | ok y w2 => first | (cases hx; exact Or.inl ⟨_, rfl⟩) | (cases hx; exact Or.inr rfl)))
      | (rename_i y e
         simp only [execOp, e] at hx
         generalize a.eval y = vy at hx
         split at hx
         all_goals first
           | (cases hx; exact Or.inl ⟨_, rfl⟩)
           | (simp [go_sem] at hx; done)
           | (split at hx
              all_goals first
                | (cases hx; exact Or.inl ⟨_, rfl⟩)
                | (simp [go_sem] at hx; done)
                | (simp only [Sem.run_bind] at hx
                   generalize Sem.run P program w = r1 at hx
                   cases r1 with
                   | halt q w2 => cases hx
                   | ok y1 w2 =>
                     simp only [Result.andThen_ok] at hx
                     generalize Sem.run P (nilAhead _ _ _ _) w2 = r2 at hx
                     cases r2 with
                     | halt q w3 => cases hx
                     | ok y2 w3 =>
                       simp only [Result.andThen_ok] at hx
                       split at hx
                       · simp [go_sem] at hx
                       · cases hx; exact Or.inl ⟨_, rfl⟩)))
  generalize (execOp a.eval o).run P w = r at *
  cases r with
  | ok x w' =>
    rcases hne x w' rfl with ⟨v, rfl⟩ | rfl
    · exact hh
    · exact hh
  | halt x w' => cases x <;> exact hh
section
variable {F : Fence} {n : Nat} {P : Program} {md : Region.Mode} {ops : Array Oper} {Q : Exit → Act → World → Prop} {S : World → Prop} {s1 : Nat}
def plainOps (ops : Array Oper) : Bool := ops.all fun o => plainOp o.op
theorem about_skip {o : Oper} (h : plainOp o.op = true) (w : World) (ρ : Operand → Value) : o.about P w ρ = none := by
  unfold Oper.about
  split
  · next c hc =>
    rw [hc] at h
    obtain ⟨callee, args, types⟩ := c
    unfold plainOp at h
    split at h <;> try (cases h; done)
    all_goals (rename_i e; first | (cases e; done) | skip)
    all_goals (injection e with e; injection e with e1 e2 e3; subst e1; simp [resolve, Target.leads])
  · rfl
theorem wpOp_in (hp : plainOps ops = true) (hQ : ¬ LetsOut Q) {i : Nat} {K : Act → World → Prop} {a : Act} {w : World} (h : wpOp P ops Q i K a w) : wpOpIn F n P ops Q i K a w := by
  unfold wpOp at h
  unfold wpOpIn
  cases ho : ops[i]? with
  | none => rw [ho] at h; exact h
  | some o =>
    rw [ho] at h
    simp only at h ⊢
    have hpo : plainOp o.op = true := Array.all_eq_true_iff_forall_mem.1 hp o (Array.mem_of_getElem? ho)
    split
    · next hw =>
      rw [if_pos hw] at h
      rcases h with h | ⟨_, h⟩
      · exact plain_wp hpo h
      · exact absurd h hQ
    · next hw =>
      rw [if_neg hw] at h
      exact ⟨(fun f hf => by rw [about_skip hpo] at hf; cases hf), h⟩
theorem any_in (hp : plainOps ops = true) (hQ : ¬ LetsOut Q) : ∀ (fuel : Nat) (listed : Array Bool) (a : Act) (w : World), wpAny P md ops Q fuel listed a w → wpAnyIn F n P md ops Q fuel listed a w
  | 0, _, _, _, h => h
  | fuel + 1, _, _, _, h => ⟨h.1, fun i hi => wpOp_in hp hQ (wpOp_mono (fun a' w' h' => any_in hp hQ fuel _ a' w' h') (h.2 i hi))⟩
/-- Whatever order is picked; T holds, and S till s1 has come up. -/
def wpTill (P : Program) (md : Region.Mode) (ops : Array Oper) (Q : Exit → Act → World → Prop) (T S : World → Prop) (s1 : Nat) : Nat → Array Bool → Act → World → Prop
  | 0, listed, a, w => Region.ready md ops listed = [] ∧ Q .normal a w
  | fuel + 1, listed, a, w =>
    (Region.ready md ops listed = [] → Q .normal a w) ∧
    ∀ i ∈ Region.ready md ops listed, wpOp P ops Q i (fun a' w' => (T w' ∧ ((listed.setIfInBounds i true).getD s1 false = false → S w')) ∧ wpTill P md ops Q T S s1 fuel (listed.setIfInBounds i true) a' w') a w
theorem any_of_till {T : World → Prop} : ∀ (fuel : Nat) (listed : Array Bool) (a : Act) (w : World), wpTill P md ops Q T S s1 fuel listed a w → wpAny P md ops Q fuel listed a w
  | 0, _, _, _, h => h
  | fuel + 1, _, _, _, h => ⟨h.1, fun i hi => wpOp_mono (fun a' w' h' => any_of_till fuel _ a' w' h'.2) (h.2 i hi)⟩
variable {T : World → Prop}
theorem till_first {i : Nat} {oi : Oper} {v : Value} {X : World → Prop} (hi : ops[i]? = some oi) (hsel : ∀ (j : Nat) (o : Oper) cs b, ops[j]? = some o → o.op ≠ .select cs b) (hne1 : i ≠ s1)
    (D : Bool) (hdir : D = true → ∀ o, ops[s1]? = some o → ∃ e ∈ o.after, Region.binds md e = true ∧ e.on = i) (hX : ∀ w, T w → (D = true → S w) → X w)
    (hQ : ∀ c a w, Q (.panic c) (a.put oi.dst v) w → Q (.panic c) a w) :
    ∀ (fuel : Nat) (listed : Array Bool) (a : Act) (w : World),
      (∀ j oj, ops[j]? = some oj → j ≠ i → listed.getD j true = false → (∀ e ∈ oj.after, Region.binds md e = true → e.on ≠ i) → oi.apart ops oj = true) →
      i ∈ Region.ready md ops listed → (D = true → listed.getD s1 false = false) → YieldsIf P ops X oi v a → T w → (listed.getD s1 false = false → S w) →
      wpTill P md ops Q T S s1 fuel (listed.setIfInBounds i true) (a.put oi.dst v) w → wpTill P md ops Q T S s1 (fuel + 1) listed a w := by
  intro fuel
  induction fuel with
  | zero =>
    intro listed a w _ hr hls hy hT hS H
    have hSi : (listed.setIfInBounds i true).getD s1 false = false → S w := fun h => hS (by rw [getD_set_ne false hne1] at h; exact h)
    refine ⟨fun h => (by rw [h] at hr; cases hr), fun j hj => ?_⟩
    by_cases hji : j = i
    · subst hji; exact hy.wpOp hi (hX w hT fun d => hS (hls d)) ⟨⟨hT, hSi⟩, H⟩
    · have := ready_mono hj hji
      rw [H.1] at this
      cases this
  | succ fuel ih =>
    intro listed a w hfree hr hls hy hT hS H
    have hSi : (listed.setIfInBounds i true).getD s1 false = false → S w := fun h => hS (by rw [getD_set_ne false hne1] at h; exact h)
    refine ⟨fun h => (by rw [h] at hr; cases hr), fun j hj => ?_⟩
    by_cases hji : j = i
    · subst hji; exact hy.wpOp hi (hX w hT fun d => hS (hls d)) ⟨⟨hT, hSi⟩, H⟩
    · have h1 := H.2 j (ready_mono hj hji)
      obtain ⟨hjun, oj, hoj, hall⟩ := mem_ready.1 hj
      have hun : ∀ e ∈ oj.after, Region.binds md e = true → e.on ≠ i := fun e he hb heq => by
        have h1 := hall e he hb
        have h0 := (mem_ready.1 hr).1
        rw [heq] at h1
        rcases Nat.lt_or_ge i listed.size with h' | h'
        · simp [h'] at h0 h1; rw [h0] at h1; cases h1
        · simp [Array.getElem?_eq_none h'] at h1
      have h2 := wpOp_putIf hoj (hfree j oj hoj hji hjun hun) (fun cs b => hsel i oi cs b hi) (fun cs b => hsel j oj cs b hoj) hQ hy h1
      have hfree' : ∀ k ok, ops[k]? = some ok → k ≠ i → (listed.setIfInBounds j true).getD k true = false →
          (∀ e ∈ ok.after, Region.binds md e = true → e.on ≠ i) → oi.apart ops ok = true := fun k ok hk hki hun hno => by
        refine hfree k ok hk hki ?_ hno
        by_cases hjk : j = k
        · subst hjk; exact hjun
        · rw [getD_set_ne true hjk] at hun; exact hun
      have hls' : D = true → (listed.setIfInBounds j true).getD s1 false = false := fun d => by
        have hjs : j ≠ s1 := fun e => by
          subst e
          obtain ⟨e, he, hb, hon⟩ := hdir d oj hoj
          exact hun e he hb hon
        rw [getD_set_ne false hjs]; exact hls d
      have hS' : ∀ w', (((listed.setIfInBounds i true).setIfInBounds j true).getD s1 false = false → S w') → ((listed.setIfInBounds j true).getD s1 false = false → S w') := fun w' h h0 => h (by
        rw [← Array.setIfInBounds_comm _ _ hji, getD_set_ne false hne1]; exact h0)
      refine wpOp_mono (fun a' w' h3 => ⟨⟨h3.2.1.1, hS' w' h3.2.1.2⟩, ih (listed.setIfInBounds j true) a' w' hfree' (ready_mono hr (Ne.symm hji)) hls' h3.1 h3.2.1.1 (hS' w' h3.2.1.2) ?_⟩) h2
      rw [Array.setIfInBounds_comm _ _ hji]
      exact h3.2.2
/-- Take number i first: it yields in every world in which T holds. -/
theorem take_T (i : Nat) {oi : Oper} {v : Value} {fuel : Nat} {listed : Array Bool} {a : Act} {w : World} (hi : ops[i]? = some oi)
    (hs : Region.noSelect ops = true) (hf : Region.free md ops listed i = true) (hr : (Region.ready md ops listed).contains i = true) (hne1 : (i != s1) = true)
    (hQ : ∀ c a w, Q (.panic c) (a.put oi.dst v) w → Q (.panic c) a w) (hT : T w) (hS : listed.getD s1 false = false → S w) (hy : YieldsIf P ops T oi v a)
    (h : wpTill P md ops Q T S s1 fuel (listed.setIfInBounds i true) (a.put oi.dst v) w) : wpTill P md ops Q T S s1 (fuel + 1) listed a w :=
  till_first (X := T) hi (Region.noSelect_spec hs) (by simpa using hne1) false (fun d => by cases d) (fun _ h _ => h) hQ fuel listed a w (Region.free_spec hi hf) (by simpa using hr) (fun d => by cases d) hy hT hS h
/-- Take number i first: it yields in every world in which S holds, and s1 waits for it. -/
theorem take_S (i : Nat) {oi : Oper} {v : Value} {fuel : Nat} {listed : Array Bool} {a : Act} {w : World} (hi : ops[i]? = some oi)
    (hs : Region.noSelect ops = true) (hf : Region.free md ops listed i = true) (hr : (Region.ready md ops listed).contains i = true) (hne1 : (i != s1) = true) (hls : listed.getD s1 false = false)
    (hdir : (match ops[s1]? with | some o => o.after.any fun e => Region.binds md e && e.on == i | none => true) = true)
    (hQ : ∀ c a w, Q (.panic c) (a.put oi.dst v) w → Q (.panic c) a w) (hT : T w) (hS : S w) (hy : YieldsIf P ops S oi v a)
    (h : wpTill P md ops Q T S s1 fuel (listed.setIfInBounds i true) (a.put oi.dst v) w) : wpTill P md ops Q T S s1 (fuel + 1) listed a w :=
  till_first (X := S) hi (Region.noSelect_spec hs) (by simpa using hne1) true (fun _ o ho => by
    rw [ho] at hdir
    obtain ⟨e, he, hb⟩ := Array.any_eq_true'.1 hdir
    rw [Bool.and_eq_true] at hb
    exact ⟨e, he, hb.1, by simpa using hb.2⟩) (fun _ _ h => h rfl) hQ fuel listed a w (Region.free_spec hi hf) (by simpa using hr) (fun _ => hls) hy hT (fun _ => hS) h
/-- Whichever of those that may come up comes up. -/
theorem till_all (rs : List Nat) {fuel : Nat} {listed : Array Bool} {a : Act} {w : World} (hr : Region.ready md ops listed = rs) (hne : rs ≠ [])
    (h : ∀ i ∈ rs, ∀ K : Act → World → Prop, (∀ a' w', T w' → ((listed.setIfInBounds i true).getD s1 false = false → S w') → wpTill P md ops Q T S s1 fuel (listed.setIfInBounds i true) a' w' → K a' w') → wpOp P ops Q i K a w) : wpTill P md ops Q T S s1 (fuel + 1) listed a w :=
  ⟨fun h0 => absurd (hr ▸ h0) hne, fun i hi => h i (hr ▸ hi) _ (fun a' w' h0 h1 h2 => ⟨⟨h0, h1⟩, h2⟩)⟩
/-- An operation that is wanted, and runs to its end. -/
theorem op_at {i : Nat} (o : Oper) {a : Act} {w : World} {K : Act → World → Prop} (hi : ops[i]? = some o) (h : if Region.wanted o (yielded ops a.tmps) = true then Oper.wp P o a w K Q else K (a.put o.dst undef) w) : wpOp P ops Q i K a w := by
  unfold wpOp
  rw [hi]
  simp only
  split
  · next hw => rw [if_pos hw] at h; exact Or.inl h
  · next hw => rw [if_neg hw] at h; exact h
theorem till_done {listed : Array Bool} {a : Act} {w : World} (hr : Region.ready md ops listed = []) (h : Q .normal a w) : ∀ fuel, wpTill P md ops Q T S s1 fuel listed a w
  | 0 => ⟨hr, h⟩
  | _ + 1 => ⟨fun _ => h, by rw [hr]; simp⟩
/-- The beginning. -/
theorem region_round {id : Nat} {a : Act} {w : World} (T S : World → Prop) (s1 : Nat) (hm : P.follows .mixedOrders = true) (hp : plainOps ops = true) (hQ : ¬ LetsOut Q)
    (h : wpTill P .any ops Q T S s1 ops.size (Array.replicate ops.size false) a w.drew) : (Code.region id ops true).wpIn F n P Q a w :=
  wpIn_region_any hm (any_in hp hQ _ _ _ _ (any_of_till _ _ _ _ h))
end
end Go.Proofs.YtkoebhflbhpfnaaDoor.Rr
namespace Go.Proofs.YtkoebhflbhpfnaaDoor.Fl
open Go.RowKit Bq Go.Proofs.YtkoebhflbhpfnaaDoorW.PrintWords Go.Proofs.YtkoebhflbhpfnaaDoorW.PrintLast Go.Proofs.YtkoebhflbhpfnaaDoorW.PrintMore
set_option linter.unusedVariables false
set_option linter.unusedSimpArgs false
def TPost (C : Cf) (t : St) (B : Nat) (w : World) (rb mb : Nat) (wv rv : Value) (r' : RS) (e : Ending) (w' : World) : Prop := e = .returned (.tuple #[]) ∧ ∃ rv', RAt C t B w' rb mb wv rv' r' ∧ Fr (RSet rb mb rv) w w' ∧ Nx w rv rv'
/-- At a round's head. -/
def TakL (C : Cf) (t : St) (B : Nat) (w : World) (rb mb : Nat) (wv rv : Value) (told : List Int) (tg : Nat × List Int) (gk : Nat) (wr : World) : Prop :=
  ∃ rv' i rest, gk + i = C.kept.length ∧ RAt C t B wr rb mb wv rv' ⟨told, i, rest⟩ ∧ skip told (C.kept.drop i) i rest = tg ∧ Fr (RSet rb mb rv) w wr ∧ Nx w rv rv'
theorem RAt.fine {C : Cf} {t : St} {B : Nat} {w : World} {rb mb : Nat} {wv rv : Value} {r : RS} (h : RAt C t B w rb mb wv rv r) {i : Nat} {k : Int} (hk : C.kept[i]? = some k) (hw : 0 ≤ k ∧ k < 18446744073709551616) :
    ∀ n, (Instr.lookup 56 (.map (some mb)) (.int .u64 k) false).run Tryd.prog (w.drewN n) = .ok (.int .i64 (if k ∈ r.told then 0 else 1)) (w.drewN n) := by
  obtain ⟨D, hD, hS⟩ := h.map
  intro n
  have hD' : OwnF (w.drewN n) mb C.kept.length D := hD
  obtain ⟨c, hrun, hat, _⟩ := hD'.lookup_int keyedW Tryd.underlying56 Tryd.underlying3 (zeroI _) (keyW hw.1 hw.2)
  rw [hS k (List.mem_of_getElem? hk)] at hat
  injection hat with hat
  injection hat with _ hat
  rw [hrun, ← hat]
theorem region_till {P : Program} {ops : Array Oper} {Q : Exit → Act → World → Prop} {id : Nat} {a : Act} {w : World} (T S : World → Prop) (s1 : Nat) (hm : P.follows .mixedOrders = true) (h : Rr.wpTill P .any ops Q T S s1 ops.size (Array.replicate ops.size false) a w.drew) : (Code.region id ops true).wp P Q a w := wp_region_any hm (Rr.any_of_till _ _ _ _ h)
theorem frz (W : World) (o : Obj) (b i : Nat) (hlt : b < W.heap.size) (h : W.frozen? ⟨b, i, none⟩ = false) : (W.alloc o).drew.frozen? ⟨b, i, none⟩ = false := (World.frozen?_alloc_past (w := W) o b i hlt).trans h
theorem blk3 {C : Cf} {t : St} {B : Nat} {w w' : World} {rb mb : Nat} {wv rv : Value} {r : RS} (h : RAt C t B w rb mb wv rv r) (hg : w.grownBy w' (some mb)) : RBlk C t w' rb mb wv rv r := (hg.block rb h.blk.lt (fun e => h.ne.1 (by injection e))).trans h.blk
theorem fr3 {w w' : World} {rb mb : Nat} {rv : Value} (hg : w.grownBy w' (some mb)) : Fr (RSet rb mb rv) w w' := Fr.grown hg (fun k hk => by injection hk with hk; exact Or.inr (Or.inl hk.symm))
theorem cells3 {C : Cf} {t : St} {w : World} {rb mb : Nat} {wv rv : Value} {r : RS} (hr3 : RBlk C t w rb mb wv rv r) : w.cell? ⟨rb, 2, none⟩ = some (.int .i64 C.threads) ∧ w.cell? ⟨rb, 7, none⟩ = some (.int .i64 r.told.length) ∧ w.frozen? ⟨rb, 7, none⟩ = false := by
  unfold RBlk at hr3
  exact ⟨cell_of' hr3 2, cell_of' hr3 7, frozen_of' hr3 7⟩
set_option maxRecDepth 100000 in
set_option maxHeartbeats 4000000 in
theorem rtake_at (C : Cf) (hC : COk C) (t : St) (w : World) (B rb mb : Nat) (wv rv : Value) (r : RS) (g : Int) (hR : RAt C t B w rb mb wv rv r) (hk : C.kept ≠ []) (h1 : ¬ r.told.length < C.threads) (h2 : r.at_ < C.kept.length) (ha : Option Ac) (hra : ract C.desk C.threads C.kept r = ha) (hs : ha.isSome = true) :
    Calls Tryd.prog 17 #[.pointer (some ⟨rb, 0, none⟩), .int .u64 g] w (TPost C t B w rb mb wv rv ⟨r.told, (skip r.told (C.kept.drop (r.at_ + 1)) (r.at_ + 1) r.rest).1, (skip r.told (C.kept.drop (r.at_ + 1)) (r.at_ + 1) r.rest).2⟩) := by
  obtain ⟨i0, hi, hz0, hz1, hz2⟩ := info_parts info_w
  have HA := ract_any C hC t w B rb mb wv rv r hR
  rw [hra] at HA
  unfold encO encA at HA
  rw [hs] at HA
  generalize ha.getD Ac.zero = ac at HA
  have HA' := Lib.hid HA
  have HR := Lib.hid hR
  have HC := Lib.hid hC
  clear hra hs HA hR hC
  have b1 : decide (r.told.length < C.threads) = false := decide_eq_false h1
  have hle := HR.out.le
  have hk1 := HC.out.kept
  have b3 : IntKind.i64.wrap ((r.at_ : Int) + 1) = (r.at_ : Int) + 1 := IntWalk.i64_in _ (by omega)
  have HLE := Lib.hid hle
  clear hle
  go_enter Tryd.func17, Tryd.ntmps17
  go_wp2_with fail
  refine HA'.out.mono ?_
  rintro e w1 ⟨rfl, hb1⟩
  have HR1 := Lib.hid (HR.out.below hb1)
  have HB1 := Lib.hid hb1
  have hlt := HR1.out.blk.lt
  have hB := HR1.out.blk
  unfold RBlk at hB
  have c2 := cell_of' hB 2
  have c7 := cell_of' hB 7
  have c9 := cell_of' hB 9
  have z9 := frozen_of' hB 9
  simp only [List.getElem?_toArray, List.getElem?_cons_succ, List.getElem?_cons_zero] at c2 c7 c9
  clear hb1 hB
  go_wp2_with fail
  go_quiet (fail)
  obtain ⟨nq1, rfl⟩ : ∃ m, m = nq := ⟨_, rfl⟩
  go_wp2_with fail
  go_quiet (fail)
  go_wp2_with fail
  generalize hW2 : World.drewN _ _ = W2
  have hs2 : RAt C t B W2 rb mb wv rv { r with at_ := r.at_ + 1 } ∧ Fr (RSet rb mb rv) w W2 := by
    rw [← hW2]
    have hw1 : Below w1.heap.size w1 ((w1.alloc (.cells #[.int .i64 ac.k, .int .u64 ac.b, .int .i64 ac.c, .int .u64 ac.o, .int .u64 ac.n] 31)).drewN nq1) := dn' ((Below.refl _ _).alloc (Nat.le_refl _) _) nq1
    exact ⟨((HR1.out.below hw1).setAt (r.at_ + 1) (by have := HLE.out; omega)).below (below_drewN' _ nq), ((((Fr.of_below HB1.out).trans (Fr.of_below hw1)).put (Or.inl rfl) 9 _).drewN nq)⟩
  have H2 := Lib.hid hs2
  clear hs2 hW2 c2 c7 c9 z9 b3 b1 h1
  go_loopg [] (C.kept.length - (r.at_ + 1)) (fun gk wr => TakL C t B w rb mb wv rv r.told (skip r.told (C.kept.drop (r.at_ + 1)) (r.at_ + 1) r.rest) gk wr)
  case atStart => exact ⟨rv, r.at_ + 1, r.rest, by omega, H2.out.1, rfl, H2.out.2, Nx.refl _ _⟩
  case round =>
    obtain ⟨rv1, i, rest, hgi, hR1, hsk, hF, hN⟩ := hrel
    have HR2 := Lib.hid hR1
    have HS2 := Lib.hid hsk
    have HF2 := Lib.hid hF
    have HN2 := Lib.hid hN
    have hlt2 := hR1.blk.lt
    have hle2 := hR1.le
    dsimp only at hle2
    have hk1 := HC.out.kept
    have i2 : (i : Int) ≤ 1000 := by omega
    have HG := Lib.hid hgi
    have HL2 := Lib.hid hle2
    clear hR1 hsk hF hN hle2 hgi
    by_cases hlt : i < C.kept.length
    · obtain ⟨k, hat⟩ : ∃ k, C.kept[i]? = some k := ⟨_, List.getElem?_eq_getElem hlt⟩
      obtain ⟨gw, cw, hw0, hcell⟩ := own_cell HR2.out.wait hat
      have hrun := HR2.out.fine hat (HC.out.word k (List.mem_of_getElem? hat))
      have hlw := World.block_lt_of_cell? wr _ hcell
      dsimp only at hlw hrun
      have hB := HR2.out.blk
      unfold RBlk at hB
      rw [hw0] at hB
      have c8 := cell_of' hB 8
      have c9 := cell_of' hB 9
      have z9 := frozen_of' hB 9
      have c10 := cell_of' hB 10
      have c11 := cell_of' hB 11
      have z11 := frozen_of' hB 11
      simp only [List.getElem?_toArray, List.getElem?_cons_succ, List.getElem?_cons_zero] at c8 c9 c10 c11
      have b2 : decide (i < C.kept.length) = true := decide_eq_true hlt
      have j0 : (0 : Int) ≤ (i : Int) := by omega
      have j1 : (i : Int) < (C.kept.length : Int) := by omega
      have HAT := Lib.hid hat
      have HW0 := Lib.hid hw0
      clear hat hB hw0
      by_cases hin : k ∈ r.told
      · rw [if_pos hin] at hrun
        have HIN := Lib.hid hin
        clear hin
        go_wp2_with fail
        go_quiet (fail)
        go_wp2_with fail
        generalize hW3 : World.drewN _ _ = W3
        have hb3 : Below wr.heap.size wr W3 := by rw [← hW3]; exact below_drewN' wr _
        have HR3 := Lib.hid (HR2.out.below hb3)
        have HB3 := Lib.hid hb3
        have d8 := (hb3.cell (p := ⟨rb, 8, none⟩) hlt2).trans c8
        have d9 := (hb3.cell (p := ⟨rb, 9, none⟩) hlt2).trans c9
        have d11 := (hb3.cell (p := ⟨rb, 11, none⟩) hlt2).trans c11
        have dk := (hb3.cell (p := ⟨gw, i, none⟩) hlw).trans hcell
        have y9 := (hb3.frozen (p := ⟨rb, 9, none⟩) hlt2).trans z9
        have y11 := (hb3.frozen (p := ⟨rb, 11, none⟩) hlt2).trans z11
        have hlt3 := HR3.out.blk.lt
        have hlw3 := World.block_lt_of_cell? W3 _ dk
        dsimp only at hlw3
        have hown := HR3.out.row
        have hB3 : B ≤ W3.heap.size := by have := HR3.out.lo; omega
        have hn : rest.length + 1 ≤ maxLen := by have := HL2.out; unfold maxLen; omega
        have hby : (rest.length + 1) * 8 ≤ 140737488355328 := by have := HL2.out; omega
        have nrb : rv1.ownBlock ≠ some rb := HR3.out.ne.2.2.2.1
        have nrw : rv1.ownBlock ≠ some gw := HR3.out.ne.2.2.2.2.2 gw (by rw [HW0.out]; rfl)
        dsimp only at hown
        clear hW3 hb3 c8 c9 z9 c10 c11 z11 hcell hrun hlt2 hlw b2
        have dT : ∀ w' : World, Below W3.heap.size W3 w' → (World.cell? w' ⟨rb, 8, none⟩ = some (.slice (some ⟨gw, 0, none⟩) C.kept.length cw) ∧ World.cell? w' ⟨rb, 9, none⟩ = some (.int .i64 i) ∧ World.cell? w' ⟨gw, i, none⟩ = some (.int .u64 k)) ∧ World.cell? w' ⟨rb, 11, none⟩ = some rv1 := fun w' hb => ⟨⟨(hb.cell (p := ⟨rb, 8, none⟩) hlt3).trans d8, (hb.cell (p := ⟨rb, 9, none⟩) hlt3).trans d9, (hb.cell (p := ⟨gw, i, none⟩) hlw3).trans dk⟩, (hb.cell (p := ⟨rb, 11, none⟩) hlt3).trans d11⟩
        have hT0 := (dT W3.drew (Below.refl _ _).drew).1
        have hS0 := (dT W3.drew (Below.refl _ _).drew).2
        clear d8 d9 d11 dk y9
        refine region_till (fun w' => World.cell? w' ⟨rb, 8, none⟩ = some (.slice (some ⟨gw, 0, none⟩) C.kept.length cw) ∧ World.cell? w' ⟨rb, 9, none⟩ = some (.int .i64 i) ∧ World.cell? w' ⟨gw, i, none⟩ = some (.int .u64 k)) (fun w' => World.cell? w' ⟨rb, 11, none⟩ = some rv1) 16 (by kernel_rfl) ?_
        refine Rr.take_T 0 (v := ?v0) rfl (by kernel_rfl) (by kernel_rfl) (by kernel_rfl) (by kernel_rfl) (fun _ _ _ h => h) hT0 (fun _ => hS0) (Or.inl ⟨by rfl, ?y0⟩) ?z0
        case y0 =>
          intro wz hz
          try dsimp only at hz
          try obtain ⟨hz1, hz2, hz3⟩ := hz
          go_simp
          try with_reducible rfl
        case z0 =>
        try simp only [Act.put, List.setIfInBounds_toArray, List.set_cons_zero, List.set_cons_succ]
        refine Rr.take_T 1 (v := ?v1) rfl (by kernel_rfl) (by kernel_rfl) (by kernel_rfl) (by kernel_rfl) (fun _ _ _ h => h) hT0 (fun _ => hS0) (Or.inl ⟨by rfl, ?y1⟩) ?z1
        case y1 =>
          intro wz hz
          try dsimp only at hz
          try obtain ⟨hz1, hz2, hz3⟩ := hz
          go_simp
          try with_reducible rfl
        case z1 =>
        try simp only [Act.put, List.setIfInBounds_toArray, List.set_cons_zero, List.set_cons_succ]
        refine Rr.take_T 2 (v := ?v2) rfl (by kernel_rfl) (by kernel_rfl) (by kernel_rfl) (by kernel_rfl) (fun _ _ _ h => h) hT0 (fun _ => hS0) (Or.inl ⟨by rfl, ?y2⟩) ?z2
        case y2 =>
          intro wz hz
          try dsimp only at hz
          try obtain ⟨hz1, hz2, hz3⟩ := hz
          go_simp
          try with_reducible rfl
        case z2 =>
        try simp only [Act.put, List.setIfInBounds_toArray, List.set_cons_zero, List.set_cons_succ]
        refine Rr.take_T 3 (v := ?v3) rfl (by kernel_rfl) (by kernel_rfl) (by kernel_rfl) (by kernel_rfl) (fun _ _ _ h => h) hT0 (fun _ => hS0) (Or.inl ⟨by rfl, ?y3⟩) ?z3
        case y3 =>
          intro wz hz
          try dsimp only at hz
          try obtain ⟨hz1, hz2, hz3⟩ := hz
          go_simp
          try with_reducible rfl
        case z3 =>
        try simp only [Act.put, List.setIfInBounds_toArray, List.set_cons_zero, List.set_cons_succ]
        refine Rr.take_S 4 (v := ?v4) rfl (by kernel_rfl) (by kernel_rfl) (by kernel_rfl) (by kernel_rfl) (by kernel_rfl) (by kernel_rfl) (fun _ _ _ h => h) hT0 hS0 (Or.inl ⟨by rfl, ?y4⟩) ?z4
        case y4 =>
          intro wz hz
          try dsimp only at hz
          go_simp
          try with_reducible rfl
        case z4 =>
        try simp only [Act.put, List.setIfInBounds_toArray, List.set_cons_zero, List.set_cons_succ]
        refine Rr.take_T 5 (v := ?v5) rfl (by kernel_rfl) (by kernel_rfl) (by kernel_rfl) (by kernel_rfl) (fun _ _ _ h => h) hT0 (fun _ => hS0) (Or.inl ⟨by rfl, ?y5⟩) ?z5
        case y5 =>
          intro wz hz
          try dsimp only at hz
          try obtain ⟨hz1, hz2, hz3⟩ := hz
          go_simp
          try with_reducible rfl
        case z5 =>
        try simp only [Act.put, List.setIfInBounds_toArray, List.set_cons_zero, List.set_cons_succ]
        refine Rr.take_T 6 (v := ?v6) rfl (by kernel_rfl) (by kernel_rfl) (by kernel_rfl) (by kernel_rfl) (fun _ _ _ h => h) hT0 (fun _ => hS0) (Or.inl ⟨by rfl, ?y6⟩) ?z6
        case y6 =>
          intro wz hz
          try dsimp only at hz
          try obtain ⟨hz1, hz2, hz3⟩ := hz
          go_simp
          try with_reducible rfl
        case z6 =>
        try simp only [Act.put, List.setIfInBounds_toArray, List.set_cons_zero, List.set_cons_succ]
        refine Rr.take_T 7 (v := ?v7) rfl (by kernel_rfl) (by kernel_rfl) (by kernel_rfl) (by kernel_rfl) (fun _ _ _ h => h) hT0 (fun _ => hS0) (Or.inl ⟨by rfl, ?y7⟩) ?z7
        case y7 =>
          intro wz hz
          try dsimp only at hz
          try obtain ⟨hz1, hz2, hz3⟩ := hz
          go_simp
          try with_reducible rfl
        case z7 =>
        try simp only [Act.put, List.setIfInBounds_toArray, List.set_cons_zero, List.set_cons_succ]
        refine Rr.take_T 8 (v := ?v8) rfl (by kernel_rfl) (by kernel_rfl) (by kernel_rfl) (by kernel_rfl) (fun _ _ _ h => h) hT0 (fun _ => hS0) (Or.inl ⟨by rfl, ?y8⟩) ?z8
        case y8 =>
          intro wz hz
          try dsimp only at hz
          try obtain ⟨hz1, hz2, hz3⟩ := hz
          go_simp
          try with_reducible rfl
        case z8 =>
        try simp only [Act.put, List.setIfInBounds_toArray, List.set_cons_zero, List.set_cons_succ]
        refine Rr.take_T 9 (v := ?v9) rfl (by kernel_rfl) (by kernel_rfl) (by kernel_rfl) (by kernel_rfl) (fun _ _ _ h => h) hT0 (fun _ => hS0) (Or.inl ⟨by rfl, ?y9⟩) ?z9
        case y9 =>
          intro wz hz
          try dsimp only at hz
          try obtain ⟨hz1, hz2, hz3⟩ := hz
          go_simp
          try with_reducible rfl
        case z9 =>
        try simp only [Act.put, List.setIfInBounds_toArray, List.set_cons_zero, List.set_cons_succ]
        refine Rr.take_T 10 (v := ?v10) rfl (by kernel_rfl) (by kernel_rfl) (by kernel_rfl) (by kernel_rfl) (fun _ _ _ h => h) hT0 (fun _ => hS0) (Or.inl ⟨by rfl, ?y10⟩) ?z10
        case y10 =>
          intro wz hz
          try dsimp only at hz
          try obtain ⟨hz1, hz2, hz3⟩ := hz
          go_simp
          try with_reducible rfl
        case z10 =>
        try simp only [Act.put, List.setIfInBounds_toArray, List.set_cons_zero, List.set_cons_succ]
        refine Rr.take_T 11 (v := ?v11) rfl (by kernel_rfl) (by kernel_rfl) (by kernel_rfl) (by kernel_rfl) (fun _ _ _ h => h) hT0 (fun _ => hS0) (Or.inl ⟨by rfl, ?y11⟩) ?z11
        case y11 =>
          intro wz hz
          try dsimp only at hz
          try obtain ⟨hz1, hz2, hz3⟩ := hz
          go_simp
          try with_reducible rfl
        case z11 =>
        try simp only [Act.put, List.setIfInBounds_toArray, List.set_cons_zero, List.set_cons_succ]
        refine Rr.take_T 12 (v := ?v12) rfl (by kernel_rfl) (by kernel_rfl) (by kernel_rfl) (by kernel_rfl) (fun _ _ _ h => h) hT0 (fun _ => hS0) (Or.inl ⟨by rfl, ?y12⟩) ?z12
        case y12 =>
          intro wz hz
          try dsimp only at hz
          try obtain ⟨hz1, hz2, hz3⟩ := hz
          go_simp
          try with_reducible rfl
        case z12 =>
        try simp only [Act.put, List.setIfInBounds_toArray, List.set_cons_zero, List.set_cons_succ]
        refine Rr.take_T 13 (v := ?v13) rfl (by kernel_rfl) (by kernel_rfl) (by kernel_rfl) (by kernel_rfl) (fun _ _ _ h => h) hT0 (fun _ => hS0) (Or.inl ⟨by rfl, ?y13⟩) ?z13
        case y13 =>
          intro wz hz
          try dsimp only at hz
          try obtain ⟨hz1, hz2, hz3⟩ := hz
          go_simp
          try with_reducible rfl
        case z13 =>
        try simp only [Act.put, List.setIfInBounds_toArray, List.set_cons_zero, List.set_cons_succ]
        refine Rr.take_T 14 (v := ?v14) rfl (by kernel_rfl) (by kernel_rfl) (by kernel_rfl) (by kernel_rfl) (fun _ _ _ h => h) hT0 (fun _ => hS0) (Or.inl ⟨by rfl, ?y14⟩) ?z14
        case y14 =>
          intro wz hz
          try dsimp only at hz
          try obtain ⟨hz1, hz2, hz3⟩ := hz
          go_simp
          try with_reducible rfl
        case z14 =>
        try simp only [Act.put, List.setIfInBounds_toArray, List.set_cons_zero, List.set_cons_succ]
        refine Rr.till_all [15] (by kernel_rfl) (by simp) (List.forall_mem_cons.2 ⟨fun K hK => ?_, fun i hi => by cases hi⟩)
        refine Rr.op_at _ rfl ?_
        go_simp
        have hb5 : Below W3.heap.size W3 (W3.alloc (.cells #[.int .u64 k] 22)).drew := ((Below.refl _ _).alloc (Nat.le_refl _) _).drew
        refine hK _ _ (dT _ hb5).1 (fun _ => (dT _ hb5).2) ?_
        clear hK K
        try simp only [Act.put, List.setIfInBounds_toArray, List.set_cons_zero, List.set_cons_succ]
        refine Rr.till_all [16] (by kernel_rfl) (by simp) (List.forall_mem_cons.2 ⟨fun K hK => ?_, fun i hi => by cases hi⟩)
        refine Rr.op_at _ rfl ?_
        refine step_append_lies _ (by rfl) (.tmp 84) (.tmp 95) 25 (by rfl) B 22 i0 (.int .u64 0) 1 8 Tryd.underlying25 hi hz0 hz1 hz2 rfl (by omega) rv1 rest.length (ws rest) (by rfl) (own_below hown hb5) ⟨W3.heap.size, 0, none⟩ 1 1 [.int .u64 k] (by rfl) (by rfl) (World.news_of_block (cs := #[.int .u64 k]) (t := 22) (fr := (0, 0)) (heap_alloc_new W3 _)) (by simp [Value.oneCell']) (by omega) hn hby (Nat.le_trans hB3 hb5.size) (W3.heap.size + 1) (by simp) ?_
        intro gg cap w4 hown4 hgrow hat4 hlt4
        have hf4 : Fr (fun j => rv1.ownBlock = some j) W3 w4 := (Fr.of_below hb5).trans (Fr.grown hgrow (fun j hj => hj))
        have hr4 : RBlk C t w4 rb mb wv rv1 ⟨r.told, i, rest⟩ := (hf4.block rb hlt3 nrb).trans HR3.out.blk
        have dk4 := (World.cell?_of_block (a := ⟨gw, i, none⟩) (hf4.block gw hlw3 nrw)).trans (dT _ (Below.refl _ _)).1.2.2
        have HF4 := Lib.hid hf4
        have HO4 := Lib.hid hown4
        have HA4 := Lib.hid hat4
        clear hgrow hf4 hown4 hat4 hlt4
        unfold RBlk at hr4
        rw [HW0.out] at hr4
        have g8 := cell_of' hr4 8
        have g9 := cell_of' hr4 9
        have u9 := frozen_of' hr4 9
        have g11 := cell_of' hr4 11
        have u11 := frozen_of' hr4 11
        simp only [List.getElem?_toArray, List.getElem?_cons_succ, List.getElem?_cons_zero] at g8 g9 g11
        clear hr4
        have t9 : World.cell? w4 ⟨rb, 8, none⟩ = some (.slice (some ⟨gw, 0, none⟩) C.kept.length cw) ∧ World.cell? w4 ⟨rb, 9, none⟩ = some (.int .i64 i) ∧ World.cell? w4 ⟨gw, i, none⟩ = some (.int .u64 k) := ⟨g8, g9, dk4⟩
        refine hK _ _ t9 (fun _ => g11) ?_
        clear hK K
        try simp only [Act.put, List.setIfInBounds_toArray, List.set_cons_zero, List.set_cons_succ]
        refine Rr.take_T 17 (v := ?v17) rfl (by kernel_rfl) (by kernel_rfl) (by kernel_rfl) (by kernel_rfl) (fun _ _ _ h => h) t9 (fun _ => g11) (Or.inl ⟨by rfl, ?y17⟩) ?z17
        case y17 =>
          intro wz hz
          try dsimp only at hz
          try obtain ⟨hz1, hz2, hz3⟩ := hz
          go_simp
          try with_reducible rfl
        case z17 =>
        try simp only [Act.put, List.setIfInBounds_toArray, List.set_cons_zero, List.set_cons_succ]
        refine Rr.take_T 18 (v := ?v18) rfl (by kernel_rfl) (by kernel_rfl) (by kernel_rfl) (by kernel_rfl) (fun _ _ _ h => h) t9 (fun _ => g11) (Or.inl ⟨by rfl, ?y18⟩) ?z18
        case y18 =>
          intro wz hz
          try dsimp only at hz
          try obtain ⟨hz1, hz2, hz3⟩ := hz
          go_simp
          try with_reducible rfl
        case z18 =>
        try simp only [Act.put, List.setIfInBounds_toArray, List.set_cons_zero, List.set_cons_succ]
        refine Rr.till_all [19] (by kernel_rfl) (by simp) (List.forall_mem_cons.2 ⟨fun K hK => ?_, fun i hi => by cases hi⟩)
        refine Rr.op_at _ rfl ?_
        go_simp
        have hgwr : gw ≠ rb := fun e => HR3.out.ne.2.1 (by rw [HW0.out, e]; rfl)
        have t10 : World.cell? (w4.setCell ⟨rb, 11, none⟩ (.slice (some ⟨gg, 0, none⟩) (rest.length + 1) cap)) ⟨rb, 8, none⟩ = some (.slice (some ⟨gw, 0, none⟩) C.kept.length cw) ∧ World.cell? (w4.setCell ⟨rb, 11, none⟩ (.slice (some ⟨gg, 0, none⟩) (rest.length + 1) cap)) ⟨rb, 9, none⟩ = some (.int .i64 i) ∧ World.cell? (w4.setCell ⟨rb, 11, none⟩ (.slice (some ⟨gg, 0, none⟩) (rest.length + 1) cap)) ⟨gw, i, none⟩ = some (.int .u64 k) := by
          refine ⟨?_, ?_, (World.cell?_of_block (Below.heap_setCell w4 ⟨rb, 11, none⟩ _ gw hgwr)).trans dk4⟩
          · go_simp
          · go_simp
        refine hK _ _ t10 (fun h => absurd h (by decide)) ?_
        clear hK K
        refine Rr.till_done (by kernel_rfl) ?_ _
        go_wp2_with fail
        go_roundg (gk - 1)
        case measure => have := HG.out; omega
        case rel =>
          have hA := HR3.out.app (g := gg) (cap := cap) (k := k) HO4.out HF4.out (by rcases HA4.out with e | e; exact Or.inl e; exact Or.inr (by omega)) hlt
          have hq : ((i : Int) + 1) = ((i + 1 : Nat) : Int) := by omega
          have hFr : Fr (RSet rb mb rv1) wr ((w4.setCell ⟨rb, 11, none⟩ (.slice (some ⟨gg, 0, none⟩) (rest.length + 1) cap)).setCell ⟨rb, 9, none⟩ (.int .i64 ((i + 1 : Nat) : Int))) := (((Fr.of_below HB3.out).trans (HF4.out.weaken (T := RSet rb mb rv1) (fun j hj => Or.inr (Or.inr hj)))).put (Or.inl rfl) _ _).put (Or.inl rfl) _ _
          refine ⟨.slice (some ⟨gg, 0, none⟩) (rest.length + 1) cap, i + 1, rest ++ [k], by have := HG.out; omega, ?_, (skip_some HAT.out HIN.out).symm.trans HS2.out, ?_, HN2.out.trans ?_ HF2.out.size⟩
          · rw [hq]; exact hA
          · rw [hq]; exact HF2.out.next HN2.out hFr
          · rcases HA4.out with e | e
            · exact Or.inl e.symm
            · exact Or.inr ⟨gg, rfl, by have := HB3.out.size; omega⟩
      · rw [if_neg hin] at hrun
        have hst := skip_stop (rest := rest) HAT.out hin
        have HST := Lib.hid (hst.symm.trans HS2.out)
        clear hin hst
        go_wp2_with fail
        go_quiet (fail)
        go_wp2_with fail
        go_end0
        exact ⟨rfl, rv1, by rw [← HST.out]; exact HR2.out.below (below_drewN' wr _), HF2.out.drewN _, HN2.out⟩
    · have hst := skip_end (told := r.told) (rest := rest) (show C.kept.length ≤ i by omega)
      have HST := Lib.hid (hst.symm.trans HS2.out)
      have hB := HR2.out.blk
      obtain ⟨A, cp, hwv⟩ := own_form HR2.out.wait
      unfold RBlk at hB
      rw [hwv] at hB
      have c8 := cell_of' hB 8
      have c9 := cell_of' hB 9
      simp only [List.getElem?_toArray, List.getElem?_cons_succ, List.getElem?_cons_zero] at c8 c9
      have b2 : decide (i < C.kept.length) = false := decide_eq_false hlt
      clear hst hB hwv hlt
      go_wp2_with fail
      go_quiet (fail)
      go_wp2_with fail
      go_end0
      exact ⟨rfl, rv1, by rw [← HST.out]; exact HR2.out.below (below_drewN' wr _), HF2.out.drewN _, HN2.out⟩
set_option maxRecDepth 100000 in
set_option maxHeartbeats 4000000 in
theorem rtake_ld (C : Cf) (hC : COk C) (t : St) (w : World) (B rb mb : Nat) (wv rv : Value) (r : RS) (g : Int) (hg : 0 ≤ g ∧ g < 18446744073709551616) (hR : RAt C t B w rb mb wv rv r) (hk : C.kept ≠ []) (h1 : r.told.length < C.threads) (ha : Option Ac) (hra : ract C.desk C.threads C.kept r = ha) (hs : ha.isSome = true) (hl : r.told.length + 1 < C.threads) :
    Calls Tryd.prog 17 #[.pointer (some ⟨rb, 0, none⟩), .int .u64 g] w (TPost C t B w rb mb wv rv ⟨r.told ++ [g], r.at_, r.rest⟩) := by
  obtain ⟨i0, hi, hz0, hz1, hz2⟩ := info_parts info_w
  have HA := ract_any C hC t w B rb mb wv rv r hR
  rw [hra] at HA
  unfold encO encA at HA
  rw [hs] at HA
  generalize ha.getD Ac.zero = ac at HA
  have HA' := Lib.hid HA
  have HR := Lib.hid hR
  have HC := Lib.hid hC
  clear hra hs HA hR hC
  have b1 : decide (r.told.length < C.threads) = true := decide_eq_true h1
  have hle := HR.out.le
  have hk1 := HC.out.kept
  have h64 := HC.out.th.2
  have b3 : IntKind.i64.wrap ((r.told.length : Int) + 1) = (r.told.length : Int) + 1 := IntWalk.i64_in _ (by omega)
  have b4 : decide (r.told.length + 1 < C.threads) = true := decide_eq_true hl
  have b5 : decide ((r.told.length : Int) + 1 < (C.threads : Int)) = true := decide_eq_true (by omega)
  have HLE := Lib.hid hle
  have HKY := Lib.hid (keyW hg.1 hg.2)
  clear hle hg
  go_enter Tryd.func17, Tryd.ntmps17
  go_wp2_with fail
  refine HA'.out.mono ?_
  rintro e w1 ⟨rfl, hb1⟩
  have HR1 := Lib.hid (HR.out.below hb1)
  have HB1 := Lib.hid hb1
  have hlt := HR1.out.blk.lt
  have hB := HR1.out.blk
  unfold RBlk at hB
  have c2 := cell_of' hB 2
  have c7 := cell_of' hB 7
  have c10 := cell_of' hB 10
  simp only [List.getElem?_toArray, List.getElem?_cons_succ, List.getElem?_cons_zero] at c2 c7 c10
  clear hb1 hB
  go_wp2_with fail
  go_quiet (fail)
  obtain ⟨nq1, rfl⟩ : ∃ m, m = nq := ⟨_, rfl⟩
  generalize hW2 : World.drewN _ _ = W2
  have hbw : Below w1.heap.size w1 W2 := by rw [← hW2]; exact dn' ((Below.refl _ _).alloc (Nat.le_refl _) _) nq1
  have hR2 := HR1.out.below hbw
  obtain ⟨D, hD, hS⟩ := hR2.map
  have d10 := (hbw.cell (p := ⟨rb, 10, none⟩) hlt).trans c10
  have HR2 := Lib.hid hR2
  have HB2 := Lib.hid hbw
  have HS2 := Lib.hid hS
  have HD2 := Lib.hid hD
  clear hW2 hbw hR2 hS hD c2 c7 c10
  go_wp2_with (at_delete; refine wpList_delete_own _ rfl _ _ 56 22 rfl 3 keyedW Tryd.underlying56 _ mb C.kept.length D rfl HD2.out _ _ rfl HKY.out ?_; intro w3 hown3 hturn3; have hg3 := hturn3.grown; have hr3 := blk3 HR2.out hg3; obtain ⟨e2, e7, x7⟩ := cells3 hr3; have HX3 := Lib.hid hr3; have HO3 := Lib.hid hown3; have HF3 := Lib.hid (fr3 (rv := rv) (rb := rb) hg3); have HG3 := Lib.hid hg3; clear hr3 hown3 hturn3 hg3)
  go_quiet (fail)
  go_wp2_with fail
  have hR4 : RAt C t B (w3.setCell ⟨rb, 7, none⟩ (.int .i64 ((r.told.length : Int) + 1))) rb mb wv rv { r with told := r.told ++ [g] } := by
    have hq : ((r.told.length : Int) + 1) = (((r.told ++ [g]).length : Nat) : Int) := by simp
    rw [hq]
    have hw : w3.ownsRow B 22 1 wv C.kept.length (ws C.kept) := own_fr HR2.out.wait (Fr.grown (S := only mb) HG3.out (fun k hk => by injection hk with hk; exact hk.symm)) (fun k hk e => HR2.out.ne.2.2.1 (by rw [hk, e]))
    have hv : w3.ownsRow B 22 1 rv r.rest.length (ws r.rest) := own_fr HR2.out.row (Fr.grown (S := only mb) HG3.out (fun k hk => by injection hk with hk; exact hk.symm)) (fun k hk e => HR2.out.ne.2.2.2.2.1 (by rw [hk, e]))
    have hset : Fr (only rb) w3 (w3.setCell ⟨rb, 7, none⟩ (.int .i64 ((r.told ++ [g]).length : Nat))) := Fr.set w3 (only_self _) _ _
    refine ⟨?_, own_fr hw hset (fun k hk e => HR2.out.ne.2.1 (by rw [hk, e])), own_fr hv hset (fun k hk e => HR2.out.ne.2.2.2.1 (by rw [hk, e])), ⟨_, map_fr HO3.out hset (fun e => HR2.out.ne.1 e.symm), says_del HS2.out g⟩, ⟨HR2.out.lo.1, HR2.out.lo.2.1, Nat.lt_of_lt_of_le (Nat.lt_of_lt_of_le HR2.out.lo.2.2 HG3.out.size) hset.size⟩, HR2.out.ne, ⟨HR2.out.le.1, by simp; omega, HR2.out.le.2.2⟩⟩
    have hh := HX3.out
    unfold RBlk at hh ⊢
    have := set1 hh 7 (.int .i64 ((r.told ++ [g]).length : Nat))
    simpa using this
  have hF4 : Fr (RSet rb mb rv) w (w3.setCell ⟨rb, 7, none⟩ (.int .i64 ((r.told.length : Int) + 1))) := ((((Fr.of_below HB1.out).trans (Fr.of_below HB2.out)).trans HF3.out).put (Or.inl rfl) 7 _)
  refine bodyPost_ret (results_none rfl _ _ _) rfl ?_
  exact ⟨rfl, rv, hR4.below (below_drewN' _ nq), hF4.drewN nq, Nx.refl _ _⟩
set_option maxRecDepth 100000 in
set_option maxHeartbeats 4000000 in
theorem rtake_ld_last (C : Cf) (hC : COk C) (t : St) (w : World) (B rb mb : Nat) (wv rv : Value) (r : RS) (g : Int) (hg : 0 ≤ g ∧ g < 18446744073709551616) (hR : RAt C t B w rb mb wv rv r) (hk : C.kept ≠ []) (h1 : r.told.length < C.threads) (ha : Option Ac) (hra : ract C.desk C.threads C.kept r = ha) (hs : ha.isSome = true) (hl : ¬ r.told.length + 1 < C.threads) :
    Calls Tryd.prog 17 #[.pointer (some ⟨rb, 0, none⟩), .int .u64 g] w (TPost C t B w rb mb wv rv ⟨r.told ++ [g], (skip (r.told ++ [g]) (C.kept.drop r.at_) r.at_ r.rest).1, (skip (r.told ++ [g]) (C.kept.drop r.at_) r.at_ r.rest).2⟩) := by
  obtain ⟨i0, hi, hz0, hz1, hz2⟩ := info_parts info_w
  have HA := ract_any C hC t w B rb mb wv rv r hR
  rw [hra] at HA
  unfold encO encA at HA
  rw [hs] at HA
  generalize ha.getD Ac.zero = ac at HA
  have HA' := Lib.hid HA
  have HR := Lib.hid hR
  have HC := Lib.hid hC
  clear hra hs HA hR hC
  have b1 : decide (r.told.length < C.threads) = true := decide_eq_true h1
  have hle := HR.out.le
  have hk1 := HC.out.kept
  have h64 := HC.out.th.2
  have b3 : IntKind.i64.wrap ((r.told.length : Int) + 1) = (r.told.length : Int) + 1 := IntWalk.i64_in _ (by omega)
  have b4 : decide (r.told.length + 1 < C.threads) = false := decide_eq_false hl
  have b5 : decide ((r.told.length : Int) + 1 < (C.threads : Int)) = false := decide_eq_false (by omega)
  have HLE := Lib.hid hle
  have HKY := Lib.hid (keyW hg.1 hg.2)
  clear hle hg
  go_enter Tryd.func17, Tryd.ntmps17
  go_wp2_with fail
  refine HA'.out.mono ?_
  rintro e w1 ⟨rfl, hb1⟩
  have HR1 := Lib.hid (HR.out.below hb1)
  have HB1 := Lib.hid hb1
  have hlt := HR1.out.blk.lt
  have hB := HR1.out.blk
  unfold RBlk at hB
  have c2 := cell_of' hB 2
  have c7 := cell_of' hB 7
  have c10 := cell_of' hB 10
  simp only [List.getElem?_toArray, List.getElem?_cons_succ, List.getElem?_cons_zero] at c2 c7 c10
  clear hb1 hB
  go_wp2_with fail
  go_quiet (fail)
  obtain ⟨nq1, rfl⟩ : ∃ m, m = nq := ⟨_, rfl⟩
  generalize hW2 : World.drewN _ _ = W2
  have hbw : Below w1.heap.size w1 W2 := by rw [← hW2]; exact dn' ((Below.refl _ _).alloc (Nat.le_refl _) _) nq1
  have hR2 := HR1.out.below hbw
  obtain ⟨D, hD, hS⟩ := hR2.map
  have d10 := (hbw.cell (p := ⟨rb, 10, none⟩) hlt).trans c10
  have HR2 := Lib.hid hR2
  have HB2 := Lib.hid hbw
  have HS2 := Lib.hid hS
  have HD2 := Lib.hid hD
  clear hW2 hbw hR2 hS hD c2 c7 c10
  go_wp2_with (at_delete; refine wpList_delete_own _ rfl _ _ 56 22 rfl 3 keyedW Tryd.underlying56 _ mb C.kept.length D rfl HD2.out _ _ rfl HKY.out ?_; intro w3 hown3 hturn3; have hg3 := hturn3.grown; have hr3 := blk3 HR2.out hg3; obtain ⟨e2, e7, x7⟩ := cells3 hr3; have HX3 := Lib.hid hr3; have HO3 := Lib.hid hown3; have HF3 := Lib.hid (fr3 (rv := rv) (rb := rb) hg3); have HG3 := Lib.hid hg3; clear hr3 hown3 hturn3 hg3)
  go_quiet (fail)
  go_wp2_with fail
  have hR4 : RAt C t B (w3.setCell ⟨rb, 7, none⟩ (.int .i64 ((r.told.length : Int) + 1))) rb mb wv rv { r with told := r.told ++ [g] } := by
    have hq : ((r.told.length : Int) + 1) = (((r.told ++ [g]).length : Nat) : Int) := by simp
    rw [hq]
    have hw : w3.ownsRow B 22 1 wv C.kept.length (ws C.kept) := own_fr HR2.out.wait (Fr.grown (S := only mb) HG3.out (fun k hk => by injection hk with hk; exact hk.symm)) (fun k hk e => HR2.out.ne.2.2.1 (by rw [hk, e]))
    have hv : w3.ownsRow B 22 1 rv r.rest.length (ws r.rest) := own_fr HR2.out.row (Fr.grown (S := only mb) HG3.out (fun k hk => by injection hk with hk; exact hk.symm)) (fun k hk e => HR2.out.ne.2.2.2.2.1 (by rw [hk, e]))
    have hset : Fr (only rb) w3 (w3.setCell ⟨rb, 7, none⟩ (.int .i64 ((r.told ++ [g]).length : Nat))) := Fr.set w3 (only_self _) _ _
    refine ⟨?_, own_fr hw hset (fun k hk e => HR2.out.ne.2.1 (by rw [hk, e])), own_fr hv hset (fun k hk e => HR2.out.ne.2.2.2.1 (by rw [hk, e])), ⟨_, map_fr HO3.out hset (fun e => HR2.out.ne.1 e.symm), says_del HS2.out g⟩, ⟨HR2.out.lo.1, HR2.out.lo.2.1, Nat.lt_of_lt_of_le (Nat.lt_of_lt_of_le HR2.out.lo.2.2 HG3.out.size) hset.size⟩, HR2.out.ne, ⟨HR2.out.le.1, by simp; omega, HR2.out.le.2.2⟩⟩
    have hh := HX3.out
    unfold RBlk at hh ⊢
    have := set1 hh 7 (.int .i64 ((r.told ++ [g]).length : Nat))
    simpa using this
  have hF4 : Fr (RSet rb mb rv) w (w3.setCell ⟨rb, 7, none⟩ (.int .i64 ((r.told.length : Int) + 1))) := ((((Fr.of_below HB1.out).trans (Fr.of_below HB2.out)).trans HF3.out).put (Or.inl rfl) 7 _)
  generalize hW4 : World.drewN _ _ = W4
  have hs2 : RAt C t B W4 rb mb wv rv { r with told := r.told ++ [g] } ∧ Fr (RSet rb mb rv) w W4 := by
    rw [← hW4]
    exact ⟨hR4.below (below_drewN' _ nq), hF4.drewN nq⟩
  have H2 := Lib.hid hs2
  clear hs2 hW4 hR4 hF4 e2 e7 x7 d10 b1 b3 b4 b5 h1 hl
  go_loopg [] (C.kept.length - r.at_) (fun gk wr => TakL C t B w rb mb wv rv (r.told ++ [g]) (skip (r.told ++ [g]) (C.kept.drop r.at_) r.at_ r.rest) gk wr)
  case atStart => exact ⟨rv, r.at_, r.rest, by have := HLE.out; omega, H2.out.1, rfl, H2.out.2, Nx.refl _ _⟩
  case round =>
    obtain ⟨rv1, i, rest, hgi, hR1, hsk, hF, hN⟩ := hrel
    have HR2 := Lib.hid hR1
    have HS2 := Lib.hid hsk
    have HF2 := Lib.hid hF
    have HN2 := Lib.hid hN
    have hlt2 := hR1.blk.lt
    have hle2 := hR1.le
    dsimp only at hle2
    have hk1 := HC.out.kept
    have i2 : (i : Int) ≤ 1000 := by omega
    have HG := Lib.hid hgi
    have HL2 := Lib.hid hle2
    clear hR1 hsk hF hN hle2 hgi
    by_cases hlt : i < C.kept.length
    · obtain ⟨k, hat⟩ : ∃ k, C.kept[i]? = some k := ⟨_, List.getElem?_eq_getElem hlt⟩
      obtain ⟨gw, cw, hw0, hcell⟩ := own_cell HR2.out.wait hat
      have hrun := HR2.out.fine hat (HC.out.word k (List.mem_of_getElem? hat))
      have hlw := World.block_lt_of_cell? wr _ hcell
      dsimp only at hlw hrun
      have hB := HR2.out.blk
      unfold RBlk at hB
      rw [hw0] at hB
      have c8 := cell_of' hB 8
      have c9 := cell_of' hB 9
      have z9 := frozen_of' hB 9
      have c10 := cell_of' hB 10
      have c11 := cell_of' hB 11
      have z11 := frozen_of' hB 11
      simp only [List.getElem?_toArray, List.getElem?_cons_succ, List.getElem?_cons_zero] at c8 c9 c10 c11
      have b2 : decide (i < C.kept.length) = true := decide_eq_true hlt
      have j0 : (0 : Int) ≤ (i : Int) := by omega
      have j1 : (i : Int) < (C.kept.length : Int) := by omega
      have HAT := Lib.hid hat
      have HW0 := Lib.hid hw0
      clear hat hB hw0
      by_cases hin : k ∈ (r.told ++ [g])
      · rw [if_pos hin] at hrun
        have HIN := Lib.hid hin
        clear hin
        go_wp2_with fail
        go_quiet (fail)
        go_wp2_with fail
        generalize hW3 : World.drewN _ _ = W3
        have hb3 : Below wr.heap.size wr W3 := by rw [← hW3]; exact below_drewN' wr _
        have HR3 := Lib.hid (HR2.out.below hb3)
        have HB3 := Lib.hid hb3
        have d8 := (hb3.cell (p := ⟨rb, 8, none⟩) hlt2).trans c8
        have d9 := (hb3.cell (p := ⟨rb, 9, none⟩) hlt2).trans c9
        have d11 := (hb3.cell (p := ⟨rb, 11, none⟩) hlt2).trans c11
        have dk := (hb3.cell (p := ⟨gw, i, none⟩) hlw).trans hcell
        have y9 := (hb3.frozen (p := ⟨rb, 9, none⟩) hlt2).trans z9
        have y11 := (hb3.frozen (p := ⟨rb, 11, none⟩) hlt2).trans z11
        have hlt3 := HR3.out.blk.lt
        have hlw3 := World.block_lt_of_cell? W3 _ dk
        dsimp only at hlw3
        have hown := HR3.out.row
        have hB3 : B ≤ W3.heap.size := by have := HR3.out.lo; omega
        have hn : rest.length + 1 ≤ maxLen := by have := HL2.out; unfold maxLen; omega
        have hby : (rest.length + 1) * 8 ≤ 140737488355328 := by have := HL2.out; omega
        have nrb : rv1.ownBlock ≠ some rb := HR3.out.ne.2.2.2.1
        have nrw : rv1.ownBlock ≠ some gw := HR3.out.ne.2.2.2.2.2 gw (by rw [HW0.out]; rfl)
        dsimp only at hown
        clear hW3 hb3 c8 c9 z9 c10 c11 z11 hcell hrun hlt2 hlw b2
        have dT : ∀ w' : World, Below W3.heap.size W3 w' → (World.cell? w' ⟨rb, 8, none⟩ = some (.slice (some ⟨gw, 0, none⟩) C.kept.length cw) ∧ World.cell? w' ⟨rb, 9, none⟩ = some (.int .i64 i) ∧ World.cell? w' ⟨gw, i, none⟩ = some (.int .u64 k)) ∧ World.cell? w' ⟨rb, 11, none⟩ = some rv1 := fun w' hb => ⟨⟨(hb.cell (p := ⟨rb, 8, none⟩) hlt3).trans d8, (hb.cell (p := ⟨rb, 9, none⟩) hlt3).trans d9, (hb.cell (p := ⟨gw, i, none⟩) hlw3).trans dk⟩, (hb.cell (p := ⟨rb, 11, none⟩) hlt3).trans d11⟩
        have hT0 := (dT W3.drew (Below.refl _ _).drew).1
        have hS0 := (dT W3.drew (Below.refl _ _).drew).2
        clear d8 d9 d11 dk y9
        refine region_till (fun w' => World.cell? w' ⟨rb, 8, none⟩ = some (.slice (some ⟨gw, 0, none⟩) C.kept.length cw) ∧ World.cell? w' ⟨rb, 9, none⟩ = some (.int .i64 i) ∧ World.cell? w' ⟨gw, i, none⟩ = some (.int .u64 k)) (fun w' => World.cell? w' ⟨rb, 11, none⟩ = some rv1) 16 (by kernel_rfl) ?_
        refine Rr.take_T 0 (v := ?v0) rfl (by kernel_rfl) (by kernel_rfl) (by kernel_rfl) (by kernel_rfl) (fun _ _ _ h => h) hT0 (fun _ => hS0) (Or.inl ⟨by rfl, ?y0⟩) ?z0
        case y0 =>
          intro wz hz
          try dsimp only at hz
          try obtain ⟨hz1, hz2, hz3⟩ := hz
          go_simp
          try with_reducible rfl
        case z0 =>
        try simp only [Act.put, List.setIfInBounds_toArray, List.set_cons_zero, List.set_cons_succ]
        refine Rr.take_T 1 (v := ?v1) rfl (by kernel_rfl) (by kernel_rfl) (by kernel_rfl) (by kernel_rfl) (fun _ _ _ h => h) hT0 (fun _ => hS0) (Or.inl ⟨by rfl, ?y1⟩) ?z1
        case y1 =>
          intro wz hz
          try dsimp only at hz
          try obtain ⟨hz1, hz2, hz3⟩ := hz
          go_simp
          try with_reducible rfl
        case z1 =>
        try simp only [Act.put, List.setIfInBounds_toArray, List.set_cons_zero, List.set_cons_succ]
        refine Rr.take_T 2 (v := ?v2) rfl (by kernel_rfl) (by kernel_rfl) (by kernel_rfl) (by kernel_rfl) (fun _ _ _ h => h) hT0 (fun _ => hS0) (Or.inl ⟨by rfl, ?y2⟩) ?z2
        case y2 =>
          intro wz hz
          try dsimp only at hz
          try obtain ⟨hz1, hz2, hz3⟩ := hz
          go_simp
          try with_reducible rfl
        case z2 =>
        try simp only [Act.put, List.setIfInBounds_toArray, List.set_cons_zero, List.set_cons_succ]
        refine Rr.take_T 3 (v := ?v3) rfl (by kernel_rfl) (by kernel_rfl) (by kernel_rfl) (by kernel_rfl) (fun _ _ _ h => h) hT0 (fun _ => hS0) (Or.inl ⟨by rfl, ?y3⟩) ?z3
        case y3 =>
          intro wz hz
          try dsimp only at hz
          try obtain ⟨hz1, hz2, hz3⟩ := hz
          go_simp
          try with_reducible rfl
        case z3 =>
        try simp only [Act.put, List.setIfInBounds_toArray, List.set_cons_zero, List.set_cons_succ]
        refine Rr.take_S 4 (v := ?v4) rfl (by kernel_rfl) (by kernel_rfl) (by kernel_rfl) (by kernel_rfl) (by kernel_rfl) (by kernel_rfl) (fun _ _ _ h => h) hT0 hS0 (Or.inl ⟨by rfl, ?y4⟩) ?z4
        case y4 =>
          intro wz hz
          try dsimp only at hz
          go_simp
          try with_reducible rfl
        case z4 =>
        try simp only [Act.put, List.setIfInBounds_toArray, List.set_cons_zero, List.set_cons_succ]
        refine Rr.take_T 5 (v := ?v5) rfl (by kernel_rfl) (by kernel_rfl) (by kernel_rfl) (by kernel_rfl) (fun _ _ _ h => h) hT0 (fun _ => hS0) (Or.inl ⟨by rfl, ?y5⟩) ?z5
        case y5 =>
          intro wz hz
          try dsimp only at hz
          try obtain ⟨hz1, hz2, hz3⟩ := hz
          go_simp
          try with_reducible rfl
        case z5 =>
        try simp only [Act.put, List.setIfInBounds_toArray, List.set_cons_zero, List.set_cons_succ]
        refine Rr.take_T 6 (v := ?v6) rfl (by kernel_rfl) (by kernel_rfl) (by kernel_rfl) (by kernel_rfl) (fun _ _ _ h => h) hT0 (fun _ => hS0) (Or.inl ⟨by rfl, ?y6⟩) ?z6
        case y6 =>
          intro wz hz
          try dsimp only at hz
          try obtain ⟨hz1, hz2, hz3⟩ := hz
          go_simp
          try with_reducible rfl
        case z6 =>
        try simp only [Act.put, List.setIfInBounds_toArray, List.set_cons_zero, List.set_cons_succ]
        refine Rr.take_T 7 (v := ?v7) rfl (by kernel_rfl) (by kernel_rfl) (by kernel_rfl) (by kernel_rfl) (fun _ _ _ h => h) hT0 (fun _ => hS0) (Or.inl ⟨by rfl, ?y7⟩) ?z7
        case y7 =>
          intro wz hz
          try dsimp only at hz
          try obtain ⟨hz1, hz2, hz3⟩ := hz
          go_simp
          try with_reducible rfl
        case z7 =>
        try simp only [Act.put, List.setIfInBounds_toArray, List.set_cons_zero, List.set_cons_succ]
        refine Rr.take_T 8 (v := ?v8) rfl (by kernel_rfl) (by kernel_rfl) (by kernel_rfl) (by kernel_rfl) (fun _ _ _ h => h) hT0 (fun _ => hS0) (Or.inl ⟨by rfl, ?y8⟩) ?z8
        case y8 =>
          intro wz hz
          try dsimp only at hz
          try obtain ⟨hz1, hz2, hz3⟩ := hz
          go_simp
          try with_reducible rfl
        case z8 =>
        try simp only [Act.put, List.setIfInBounds_toArray, List.set_cons_zero, List.set_cons_succ]
        refine Rr.take_T 9 (v := ?v9) rfl (by kernel_rfl) (by kernel_rfl) (by kernel_rfl) (by kernel_rfl) (fun _ _ _ h => h) hT0 (fun _ => hS0) (Or.inl ⟨by rfl, ?y9⟩) ?z9
        case y9 =>
          intro wz hz
          try dsimp only at hz
          try obtain ⟨hz1, hz2, hz3⟩ := hz
          go_simp
          try with_reducible rfl
        case z9 =>
        try simp only [Act.put, List.setIfInBounds_toArray, List.set_cons_zero, List.set_cons_succ]
        refine Rr.take_T 10 (v := ?v10) rfl (by kernel_rfl) (by kernel_rfl) (by kernel_rfl) (by kernel_rfl) (fun _ _ _ h => h) hT0 (fun _ => hS0) (Or.inl ⟨by rfl, ?y10⟩) ?z10
        case y10 =>
          intro wz hz
          try dsimp only at hz
          try obtain ⟨hz1, hz2, hz3⟩ := hz
          go_simp
          try with_reducible rfl
        case z10 =>
        try simp only [Act.put, List.setIfInBounds_toArray, List.set_cons_zero, List.set_cons_succ]
        refine Rr.take_T 11 (v := ?v11) rfl (by kernel_rfl) (by kernel_rfl) (by kernel_rfl) (by kernel_rfl) (fun _ _ _ h => h) hT0 (fun _ => hS0) (Or.inl ⟨by rfl, ?y11⟩) ?z11
        case y11 =>
          intro wz hz
          try dsimp only at hz
          try obtain ⟨hz1, hz2, hz3⟩ := hz
          go_simp
          try with_reducible rfl
        case z11 =>
        try simp only [Act.put, List.setIfInBounds_toArray, List.set_cons_zero, List.set_cons_succ]
        refine Rr.take_T 12 (v := ?v12) rfl (by kernel_rfl) (by kernel_rfl) (by kernel_rfl) (by kernel_rfl) (fun _ _ _ h => h) hT0 (fun _ => hS0) (Or.inl ⟨by rfl, ?y12⟩) ?z12
        case y12 =>
          intro wz hz
          try dsimp only at hz
          try obtain ⟨hz1, hz2, hz3⟩ := hz
          go_simp
          try with_reducible rfl
        case z12 =>
        try simp only [Act.put, List.setIfInBounds_toArray, List.set_cons_zero, List.set_cons_succ]
        refine Rr.take_T 13 (v := ?v13) rfl (by kernel_rfl) (by kernel_rfl) (by kernel_rfl) (by kernel_rfl) (fun _ _ _ h => h) hT0 (fun _ => hS0) (Or.inl ⟨by rfl, ?y13⟩) ?z13
        case y13 =>
          intro wz hz
          try dsimp only at hz
          try obtain ⟨hz1, hz2, hz3⟩ := hz
          go_simp
          try with_reducible rfl
        case z13 =>
        try simp only [Act.put, List.setIfInBounds_toArray, List.set_cons_zero, List.set_cons_succ]
        refine Rr.take_T 14 (v := ?v14) rfl (by kernel_rfl) (by kernel_rfl) (by kernel_rfl) (by kernel_rfl) (fun _ _ _ h => h) hT0 (fun _ => hS0) (Or.inl ⟨by rfl, ?y14⟩) ?z14
        case y14 =>
          intro wz hz
          try dsimp only at hz
          try obtain ⟨hz1, hz2, hz3⟩ := hz
          go_simp
          try with_reducible rfl
        case z14 =>
        try simp only [Act.put, List.setIfInBounds_toArray, List.set_cons_zero, List.set_cons_succ]
        refine Rr.till_all [15] (by kernel_rfl) (by simp) (List.forall_mem_cons.2 ⟨fun K hK => ?_, fun i hi => by cases hi⟩)
        refine Rr.op_at _ rfl ?_
        go_simp
        have hb5 : Below W3.heap.size W3 (W3.alloc (.cells #[.int .u64 k] 22)).drew := ((Below.refl _ _).alloc (Nat.le_refl _) _).drew
        refine hK _ _ (dT _ hb5).1 (fun _ => (dT _ hb5).2) ?_
        clear hK K
        try simp only [Act.put, List.setIfInBounds_toArray, List.set_cons_zero, List.set_cons_succ]
        refine Rr.till_all [16] (by kernel_rfl) (by simp) (List.forall_mem_cons.2 ⟨fun K hK => ?_, fun i hi => by cases hi⟩)
        refine Rr.op_at _ rfl ?_
        refine step_append_lies _ (by rfl) (.tmp 84) (.tmp 95) 25 (by rfl) B 22 i0 (.int .u64 0) 1 8 Tryd.underlying25 hi hz0 hz1 hz2 rfl (by omega) rv1 rest.length (ws rest) (by rfl) (own_below hown hb5) ⟨W3.heap.size, 0, none⟩ 1 1 [.int .u64 k] (by rfl) (by rfl) (World.news_of_block (cs := #[.int .u64 k]) (t := 22) (fr := (0, 0)) (heap_alloc_new W3 _)) (by simp [Value.oneCell']) (by omega) hn hby (Nat.le_trans hB3 hb5.size) (W3.heap.size + 1) (by simp) ?_
        intro gg cap w4 hown4 hgrow hat4 hlt4
        have hf4 : Fr (fun j => rv1.ownBlock = some j) W3 w4 := (Fr.of_below hb5).trans (Fr.grown hgrow (fun j hj => hj))
        have hr4 : RBlk C t w4 rb mb wv rv1 ⟨(r.told ++ [g]), i, rest⟩ := (hf4.block rb hlt3 nrb).trans HR3.out.blk
        have dk4 := (World.cell?_of_block (a := ⟨gw, i, none⟩) (hf4.block gw hlw3 nrw)).trans (dT _ (Below.refl _ _)).1.2.2
        have HF4 := Lib.hid hf4
        have HO4 := Lib.hid hown4
        have HA4 := Lib.hid hat4
        clear hgrow hf4 hown4 hat4 hlt4
        unfold RBlk at hr4
        rw [HW0.out] at hr4
        have g8 := cell_of' hr4 8
        have g9 := cell_of' hr4 9
        have u9 := frozen_of' hr4 9
        have g11 := cell_of' hr4 11
        have u11 := frozen_of' hr4 11
        simp only [List.getElem?_toArray, List.getElem?_cons_succ, List.getElem?_cons_zero] at g8 g9 g11
        clear hr4
        have t9 : World.cell? w4 ⟨rb, 8, none⟩ = some (.slice (some ⟨gw, 0, none⟩) C.kept.length cw) ∧ World.cell? w4 ⟨rb, 9, none⟩ = some (.int .i64 i) ∧ World.cell? w4 ⟨gw, i, none⟩ = some (.int .u64 k) := ⟨g8, g9, dk4⟩
        refine hK _ _ t9 (fun _ => g11) ?_
        clear hK K
        try simp only [Act.put, List.setIfInBounds_toArray, List.set_cons_zero, List.set_cons_succ]
        refine Rr.take_T 17 (v := ?v17) rfl (by kernel_rfl) (by kernel_rfl) (by kernel_rfl) (by kernel_rfl) (fun _ _ _ h => h) t9 (fun _ => g11) (Or.inl ⟨by rfl, ?y17⟩) ?z17
        case y17 =>
          intro wz hz
          try dsimp only at hz
          try obtain ⟨hz1, hz2, hz3⟩ := hz
          go_simp
          try with_reducible rfl
        case z17 =>
        try simp only [Act.put, List.setIfInBounds_toArray, List.set_cons_zero, List.set_cons_succ]
        refine Rr.take_T 18 (v := ?v18) rfl (by kernel_rfl) (by kernel_rfl) (by kernel_rfl) (by kernel_rfl) (fun _ _ _ h => h) t9 (fun _ => g11) (Or.inl ⟨by rfl, ?y18⟩) ?z18
        case y18 =>
          intro wz hz
          try dsimp only at hz
          try obtain ⟨hz1, hz2, hz3⟩ := hz
          go_simp
          try with_reducible rfl
        case z18 =>
        try simp only [Act.put, List.setIfInBounds_toArray, List.set_cons_zero, List.set_cons_succ]
        refine Rr.till_all [19] (by kernel_rfl) (by simp) (List.forall_mem_cons.2 ⟨fun K hK => ?_, fun i hi => by cases hi⟩)
        refine Rr.op_at _ rfl ?_
        go_simp
        have hgwr : gw ≠ rb := fun e => HR3.out.ne.2.1 (by rw [HW0.out, e]; rfl)
        have t10 : World.cell? (w4.setCell ⟨rb, 11, none⟩ (.slice (some ⟨gg, 0, none⟩) (rest.length + 1) cap)) ⟨rb, 8, none⟩ = some (.slice (some ⟨gw, 0, none⟩) C.kept.length cw) ∧ World.cell? (w4.setCell ⟨rb, 11, none⟩ (.slice (some ⟨gg, 0, none⟩) (rest.length + 1) cap)) ⟨rb, 9, none⟩ = some (.int .i64 i) ∧ World.cell? (w4.setCell ⟨rb, 11, none⟩ (.slice (some ⟨gg, 0, none⟩) (rest.length + 1) cap)) ⟨gw, i, none⟩ = some (.int .u64 k) := by
          refine ⟨?_, ?_, (World.cell?_of_block (Below.heap_setCell w4 ⟨rb, 11, none⟩ _ gw hgwr)).trans dk4⟩
          · go_simp
          · go_simp
        refine hK _ _ t10 (fun h => absurd h (by decide)) ?_
        clear hK K
        refine Rr.till_done (by kernel_rfl) ?_ _
        go_wp2_with fail
        go_roundg (gk - 1)
        case measure => have := HG.out; omega
        case rel =>
          have hA := HR3.out.app (g := gg) (cap := cap) (k := k) HO4.out HF4.out (by rcases HA4.out with e | e; exact Or.inl e; exact Or.inr (by omega)) hlt
          have hq : ((i : Int) + 1) = ((i + 1 : Nat) : Int) := by omega
          have hFr : Fr (RSet rb mb rv1) wr ((w4.setCell ⟨rb, 11, none⟩ (.slice (some ⟨gg, 0, none⟩) (rest.length + 1) cap)).setCell ⟨rb, 9, none⟩ (.int .i64 ((i + 1 : Nat) : Int))) := (((Fr.of_below HB3.out).trans (HF4.out.weaken (T := RSet rb mb rv1) (fun j hj => Or.inr (Or.inr hj)))).put (Or.inl rfl) _ _).put (Or.inl rfl) _ _
          refine ⟨.slice (some ⟨gg, 0, none⟩) (rest.length + 1) cap, i + 1, rest ++ [k], by have := HG.out; omega, ?_, (skip_some HAT.out HIN.out).symm.trans HS2.out, ?_, HN2.out.trans ?_ HF2.out.size⟩
          · rw [hq]; exact hA
          · rw [hq]; exact HF2.out.next HN2.out hFr
          · rcases HA4.out with e | e
            · exact Or.inl e.symm
            · exact Or.inr ⟨gg, rfl, by have := HB3.out.size; omega⟩
      · rw [if_neg hin] at hrun
        have hst := skip_stop (rest := rest) HAT.out hin
        have HST := Lib.hid (hst.symm.trans HS2.out)
        clear hin hst
        go_wp2_with fail
        go_quiet (fail)
        go_wp2_with fail
        go_end0
        exact ⟨rfl, rv1, by rw [← HST.out]; exact HR2.out.below (below_drewN' wr _), HF2.out.drewN _, HN2.out⟩
    · have hst := skip_end (told := (r.told ++ [g])) (rest := rest) (show C.kept.length ≤ i by omega)
      have HST := Lib.hid (hst.symm.trans HS2.out)
      have hB := HR2.out.blk
      obtain ⟨A, cp, hwv⟩ := own_form HR2.out.wait
      unfold RBlk at hB
      rw [hwv] at hB
      have c8 := cell_of' hB 8
      have c9 := cell_of' hB 9
      simp only [List.getElem?_toArray, List.getElem?_cons_succ, List.getElem?_cons_zero] at c8 c9
      have b2 : decide (i < C.kept.length) = false := decide_eq_false hlt
      clear hst hB hwv hlt
      go_wp2_with fail
      go_quiet (fail)
      go_wp2_with fail
      go_end0
      exact ⟨rfl, rv1, by rw [← HST.out]; exact HR2.out.below (below_drewN' wr _), HF2.out.drewN _, HN2.out⟩
theorem rtake_any (C : Cf) (hC : COk C) (t : St) (w : World) (B rb mb : Nat) (wv rv : Value) (r : RS) (g : Int) (hg : 0 ≤ g ∧ g < 18446744073709551616) (hR : RAt C t B w rb mb wv rv r) (a : Ac) (ha : ract C.desk C.threads C.kept r = some a) :
    Calls Tryd.prog 17 #[.pointer (some ⟨rb, 0, none⟩), .int .u64 g] w (TPost C t B w rb mb wv rv (rtake C.threads C.kept r g)) := by
  have hk : C.kept ≠ [] := by
    rintro e
    unfold ract at ha
    rw [if_pos e] at ha
    cases ha
  unfold rtake
  by_cases h1 : r.told.length < C.threads
  · simp only [if_pos h1]
    by_cases hl : r.told.length + 1 < C.threads
    · rw [if_pos (by simpa using hl)]
      exact rtake_ld C hC t w B rb mb wv rv r g hg hR hk h1 _ ha rfl hl
    · rw [if_neg (by simpa using hl)]
      exact rtake_ld_last C hC t w B rb mb wv rv r g hg hR hk h1 _ ha rfl hl
  · simp only [if_neg h1]
    have h2 : r.at_ < C.kept.length := by
      unfold ract at ha
      rw [if_neg hk, if_neg h1] at ha
      cases hq : C.kept[r.at_]? with
      | none => rw [hq] at ha; cases ha
      | some k => exact (List.getElem?_eq_some_iff.1 hq).1
    exact rtake_at C hC t w B rb mb wv rv r g hR hk h1 h2 _ ha rfl
end Go.Proofs.YtkoebhflbhpfnaaDoor.Fl
