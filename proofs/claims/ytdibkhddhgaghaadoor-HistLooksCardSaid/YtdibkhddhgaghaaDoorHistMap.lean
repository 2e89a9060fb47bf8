/- hist.places, Mapped, Of, of the machine and the reference; Ints. -/
import Derived.Test.YtdibkhddhgaghaaDoorHistRight
import Derived.Test.YtdibkhddhgaghaaDoorHistCall
import Derived.Laws.AppendOwn
import Derived.Laws.OwnMore
import Derived.Deep.QuietTactic
import Derived.BigQuiet
namespace Go.Proofs.YtdibkhddhgaghaaDoor.Hs
open Go.RowKit Go.Shelf Bq
set_option linter.unusedVariables false
set_option linter.unusedSimpArgs false
theorem infoI : (Tryd.prog.info? 3).map (fun i => (i.zero, i.size, i.bytes)) = some (some (.int .i64 0), 1, 8) := by kernel_rfl
theorem bool_ret {a b : Bool} (h : a = b) : Ending.returned (.bool a) = .returned (.bool b) := by rw [h]
theorem cell_one_new (w : World) (x : Value) (t : TypeId) : ∀ j u, [x][j]? = some u → (w.alloc (.cells #[x] t)).cell? ((⟨w.heap.size, 0, none⟩ : Addr).add j) = some u := fun j u h => World.news_of_block (cs := #[x]) (t := t) (fr := (0, 0)) (heap_alloc_new w _) j u h
theorem owns_shape {W : World} {base : Nat} {e : TypeId} {size : Nat} {v : Value} {k : Nat} {xs : List Value} (h : W.ownsRow base e size v k xs) : ∃ A cap, v = .slice A k cap := by
  obtain ⟨_, ⟨e, e0⟩ | ⟨g, cap', cur, e, _⟩⟩ := h
  · exact ⟨none, 0, by rw [e, e0]⟩
  · exact ⟨_, _, e⟩
theorem row_base {w : World} {b b' : Nat} {e : TypeId} {size n : Nat} {v : Value} {xs : List Value} (h : w.ownsRow b e size v n xs) (hb : b' ≤ b) : w.ownsRow b' e size v n xs := World.ownsRow.mono h hb
theorem add0 (g j : Nat) : (⟨g, 0, none⟩ : Addr).add j = ⟨g, j, none⟩ := by unfold Addr.add; split <;> simp_all
theorem take_snoc {α : Type} {l : List α} {k : Nat} {p : α} (h : l[k]? = some p) : l.take (k + 1) = l.take k ++ [p] := by rw [List.take_add_one, h]; rfl
/-- A slice of ints lies in w. -/
def Its (w : World) (v : Value) (l : List Int) : Prop := ∃ (A : Option Addr) (cap : Nat), v = .slice A l.length cap ∧ l.length ≤ cap ∧
  ∀ j (x : Int), l[j]? = some x → ∃ b z, A = some ⟨b, z, none⟩ ∧ b < w.heap.size ∧ w.cell? ⟨b, z + j, none⟩ = some (.int .i64 x)
theorem Its.below {w w' : World} {v : Value} {l : List Int} (h : Its w v l) (hb : Below w.heap.size w w') : Its w' v l := by
  obtain ⟨A, cap, rfl, hcap, hc⟩ := h
  refine ⟨A, cap, rfl, hcap, fun j x hx => ?_⟩
  obtain ⟨b, z, hz, hbl, hcell⟩ := hc j x hx
  exact ⟨b, z, hz, Nat.lt_of_lt_of_le hbl hb.size, (hb.cell (p := ⟨b, z + j, none⟩) hbl).trans hcell⟩
def mappedB (l : List CV) (at_ : Int) : Bool := decide (0 ≤ at_) && (match l[at_.toNat]? with | some q => decide (1 ≤ q.1.op.kind) && decide (q.1.op.kind ≤ 9) | none => false)
def plcK (l : List CV) (k : Nat) : List Int := ((List.range k).filter fun (i : Nat) => mappedB l (i : Int)).map fun (i : Nat) => (i : Int)
theorem plcK_snoc (l : List CV) (k : Nat) : plcK l (k + 1) = plcK l k ++ (if mappedB l (k : Int) then [(k : Int)] else []) := by
  unfold plcK
  rw [List.range_succ, List.filter_append, List.map_append]
  cases h : mappedB l (k : Int) <;> simp [h]
theorem plcK_len (l : List CV) (k : Nat) : (plcK l k).length ≤ k := by
  unfold plcK
  rw [List.length_map]
  exact Nat.le_trans (List.length_filter_le _ _) (by simp)
theorem mapped_kind {l : List CV} {k : Nat} {q : CV} (h : l[k]? = some q) : mappedB l (k : Int) = (decide (1 ≤ q.1.op.kind) && decide (q.1.op.kind ≤ 9)) := by
  unfold mappedB; rw [decide_eq_true (by omega), Int.toNat_natCast, h]; rfl
set_option maxHeartbeats 2000000 in
theorem clos_mapped (w : World) (k : Int) :
    Calls Tryd.prog 65 #[.int .i64 k] w fun e w' => e = .returned (.bool (decide (1 ≤ k) && decide (k ≤ 9))) ∧ w' = w := by
  go_enter Tryd.func65, Tryd.ntmps65
  go_wp2
  all_goals go_ret
  all_goals refine ⟨bool_ret ?_, rfl⟩
  all_goals (rw [Bool.eq_iff_iff]; simp only [Bool.and_eq_true, decide_eq_true_eq, false_iff, Bool.false_eq_true]; omega)
set_option maxRecDepth 100000 in
set_option maxHeartbeats 8000000 in
theorem placesM_any (w : World) (v : Value) (l : List CV) (h : Cls w v l) (hn : l.length < 1000000) :
    Calls Tryd.prog 64 #[v, .func (.func 65) #[] #[]] w fun e w' => ∃ v', e = .returned v' ∧ w'.ownsRow w.heap.size 3 1 v' (plcK l l.length).length ((plcK l l.length).map (Value.int .i64)) ∧ Below w.heap.size w w' := by
  obtain ⟨i0, hi, hz0, hz1, hz2⟩ := info_parts infoI
  obtain ⟨A, cap, rfl, _, hcl⟩ := h
  have HC := Lib.hid hcl
  clear hcl
  go_enter Tryd.func64, Tryd.ntmps64
  go_wp2_with fail
  go_loopw [5, 10] (fun ov i wr => ∃ k : Nat, k ≤ l.length ∧ i = .int .i64 k ∧ wr.ownsRow w.heap.size 3 1 ov (plcK l k).length ((plcK l k).map (Value.int .i64)) ∧ Below w.heap.size w wr) (fun _ i _ => l.length - (intOf i).toNat)
  case atStart => exact ⟨0, Nat.zero_le _, rfl, World.ownsRow_nil _ _ _ _, Below.refl _ _⟩
  case round =>
    obtain ⟨k, hk, rfl, hrow, hB⟩ := hrel
    have HR := Lib.hid hrow
    have HB := Lib.hid hB
    have hlk := plcK_len l k
    have hsz := hB.size
    by_cases hp : k < l.length
    · obtain ⟨q, hq⟩ : ∃ q, l[k]? = some q := ⟨_, List.getElem?_eq_getElem hp⟩
      obtain ⟨hpq, b2, z2, rfl, hbl2, hcq⟩ := HC.out k q hq
      obtain ⟨Ap, cp, ep, _⟩ := id hpq
      rw [ep] at hcq
      have HQ := Lib.hid (mapped_kind hq)
      have HSN := Lib.hid (plcK_snoc l k)
      have k0 : World.cell? wr ⟨b2, z2 + k * 15, none⟩ = some (.int .i64 q.1.thread) := (hB.cell (p := ⟨b2, z2 + k * 15, none⟩) hbl2).trans (hcq 0 _ rfl)
      have k1 : World.cell? wr ⟨b2, z2 + k * 15 + 1, none⟩ = some (.int .i64 q.1.index) := (hB.cell (p := ⟨b2, z2 + k * 15 + 1, none⟩) hbl2).trans (hcq 1 _ rfl)
      have k2 : World.cell? wr ⟨b2, z2 + k * 15 + 2, none⟩ = some (.int .i64 q.1.op.kind) := (hB.cell (p := ⟨b2, z2 + k * 15 + 2, none⟩) hbl2).trans (hcq 2 _ rfl)
      have k3 : World.cell? wr ⟨b2, z2 + k * 15 + 3, none⟩ = some (.string q.1.op.key) := (hB.cell (p := ⟨b2, z2 + k * 15 + 3, none⟩) hbl2).trans (hcq 3 _ rfl)
      have k4 : World.cell? wr ⟨b2, z2 + k * 15 + 4, none⟩ = some (.string q.1.op.value) := (hB.cell (p := ⟨b2, z2 + k * 15 + 4, none⟩) hbl2).trans (hcq 4 _ rfl)
      have k5 : World.cell? wr ⟨b2, z2 + k * 15 + 5, none⟩ = some (.string q.1.op.old) := (hB.cell (p := ⟨b2, z2 + k * 15 + 5, none⟩) hbl2).trans (hcq 5 _ rfl)
      have k6 : World.cell? wr ⟨b2, z2 + k * 15 + 6, none⟩ = some (.int .i64 q.1.begin_) := (hB.cell (p := ⟨b2, z2 + k * 15 + 6, none⟩) hbl2).trans (hcq 6 _ rfl)
      have k7 : World.cell? wr ⟨b2, z2 + k * 15 + 7, none⟩ = some (.int .i64 q.1.end_) := (hB.cell (p := ⟨b2, z2 + k * 15 + 7, none⟩) hbl2).trans (hcq 7 _ rfl)
      have k8 : World.cell? wr ⟨b2, z2 + k * 15 + 8, none⟩ = some (.bool q.1.done) := (hB.cell (p := ⟨b2, z2 + k * 15 + 8, none⟩) hbl2).trans (hcq 8 _ rfl)
      have k9 : World.cell? wr ⟨b2, z2 + k * 15 + 9, none⟩ = some (.int .i64 q.1.reply.err) := (hB.cell (p := ⟨b2, z2 + k * 15 + 9, none⟩) hbl2).trans (hcq 9 _ rfl)
      have k10 : World.cell? wr ⟨b2, z2 + k * 15 + 10, none⟩ = some (.bool q.1.reply.had) := (hB.cell (p := ⟨b2, z2 + k * 15 + 10, none⟩) hbl2).trans (hcq 10 _ rfl)
      have k11 : World.cell? wr ⟨b2, z2 + k * 15 + 11, none⟩ = some (.bool q.1.reply.did) := (hB.cell (p := ⟨b2, z2 + k * 15 + 11, none⟩) hbl2).trans (hcq 11 _ rfl)
      have k12 : World.cell? wr ⟨b2, z2 + k * 15 + 12, none⟩ = some (.string q.1.reply.value) := (hB.cell (p := ⟨b2, z2 + k * 15 + 12, none⟩) hbl2).trans (hcq 12 _ rfl)
      have k13 : World.cell? wr ⟨b2, z2 + k * 15 + 13, none⟩ = some (.int .i64 q.1.reply.n) := (hB.cell (p := ⟨b2, z2 + k * 15 + 13, none⟩) hbl2).trans (hcq 13 _ rfl)
      have k14 : World.cell? wr ⟨b2, z2 + k * 15 + 14, none⟩ = some (.slice Ap q.1.reply.pairs.length cp) := (hB.cell (p := ⟨b2, z2 + k * 15 + 14, none⟩) hbl2).trans (hcq 14 _ rfl)
      have hrow1 := hrow.alloc (.cells #[.int .i64 q.1.thread, .int .i64 q.1.index, .int .i64 q.1.op.kind, .string q.1.op.key, .string q.1.op.value, .string q.1.op.old, .int .i64 q.1.begin_, .int .i64 q.1.end_, .bool q.1.done, .int .i64 q.1.reply.err, .bool q.1.reply.had, .bool q.1.reply.did, .string q.1.reply.value, .int .i64 q.1.reply.n, .slice Ap q.1.reply.pairs.length cp] 50)
      have hg1 := hB.alloc hsz (.cells #[.int .i64 q.1.thread, .int .i64 q.1.index, .int .i64 q.1.op.kind, .string q.1.op.key, .string q.1.op.value, .string q.1.op.old, .int .i64 q.1.begin_, .int .i64 q.1.end_, .bool q.1.done, .int .i64 q.1.reply.err, .bool q.1.reply.had, .bool q.1.reply.did, .string q.1.reply.value, .int .i64 q.1.reply.n, .slice Ap q.1.reply.pairs.length cp] 50)
      obtain ⟨WC, hWC⟩ : ∃ W, W = wr.alloc (.cells #[.int .i64 q.1.thread, .int .i64 q.1.index, .int .i64 q.1.op.kind, .string q.1.op.key, .string q.1.op.value, .string q.1.op.old, .int .i64 q.1.begin_, .int .i64 q.1.end_, .bool q.1.done, .int .i64 q.1.reply.err, .bool q.1.reply.had, .bool q.1.reply.did, .string q.1.reply.value, .int .i64 q.1.reply.n, .slice Ap q.1.reply.pairs.length cp] 50) := ⟨_, rfl⟩
      rw [← hWC] at hrow1 hg1
      have HWC := Lib.hid hWC
      have HB1 := Lib.hid hg1
      clear hq hpq ep hcq hB hg1 hrow hWC
      go_wp2_with fail
      rw [← HWC.out]
      refine (clos_mapped _ q.1.op.kind).mono ?_
      clear k0 k1 k2 k3 k4 k5 k6 k7 k8 k9 k10 k11 k12 k13 k14
      rw [← HQ.out]
      cases hke : mappedB l (k : Int) with
      | true =>
        rintro e w1 ⟨rfl, hw1⟩
        subst hw1
        have HSN1 := Lib.hid (show plcK l (k + 1) = plcK l k ++ [(k : Int)] by rw [HSN.out, if_pos hke])
        have hsz1 := HB1.out.size
        clear hke
        go_wp2_with (at_builtin; refine wpList_append_own _ rfl _ _ 52 rfl w.heap.size 3 i0 (.int .i64 0) 1 8 Tryd.underlying52 hi hz0 hz1 hz2 rfl (by decide) _ _ _ rfl (hrow1.alloc _) _ 1 1 [.int .i64 k] rfl rfl (cell_one_new _ _ _) (by simp [Value.oneCell']) (by simp [maxLen]; omega) (by omega) (by simp; omega) ?_; intro v9 w9 hown9 hgrow9 hnil9; have HO := Lib.hid hown9; have HG := Lib.hid hgrow9; clear hown9 hgrow9 hnil9)
        refine ⟨⟨k + 1, by omega, by go_num, ?_, (HB1.out.alloc hsz1 _).grown HG.out (by simp; omega) (fun gg hgg => (World.ownsRow.lt hrow1 gg hgg).1)⟩, by show l.length - ((k : Int) + 1).toNat < l.length - (k : Int).toNat; omega⟩
        rw [HSN1.out]
        have := HO.out
        simpa using this
      | false =>
        rintro e w1 ⟨rfl, hw1⟩
        subst hw1
        have HSN1 := Lib.hid (show plcK l (k + 1) = plcK l k ++ [] by rw [HSN.out, if_neg (by rw [hke]; decide)])
        have HR1 := Lib.hid hrow1
        clear hke hrow1
        go_wp2_with fail
        refine ⟨⟨k + 1, by omega, by go_num, ?_, HB1.out⟩, by show l.length - ((k : Int) + 1).toNat < l.length - (k : Int).toNat; omega⟩
        rw [HSN1.out, List.append_nil]
        exact HR1.out
    · obtain rfl : k = l.length := by omega
      clear hB hrow
      go_wp2_with fail
      go_ret
      exact ⟨_, rfl, HR.out, HB.out⟩
set_option maxHeartbeats 4000000 in
theorem mappedL_any (w : World) (v : Value) (l : List CV) (h : Cls w v l) (hn : l.length < 1000000) :
    Calls Tryd.prog 26 #[v] w fun e w' => ∃ v', e = .returned v' ∧ w'.ownsRow w.heap.size 3 1 v' (plcK l l.length).length ((plcK l l.length).map (Value.int .i64)) ∧ Below w.heap.size w w' := by
  have C := Lib.hid (placesM_any w v l h hn)
  obtain ⟨A, cap, rfl, _⟩ := h
  go_enter Tryd.func26, Tryd.ntmps26
  go_wp2_with fail
  refine C.out.mono ?_
  rintro e w1 ⟨v1, rfl, hr, hb⟩
  have HR := Lib.hid hr
  have HB := Lib.hid hb
  obtain ⟨A1, c1, rfl⟩ := owns_shape hr
  clear hr hb
  go_wp2_with fail
  go_ret
  exact ⟨_, rfl, HR.out, HB.out⟩
set_option maxRecDepth 100000 in
set_option maxHeartbeats 8000000 in
theorem mappedL_ref (w : World) (v : Value) (l : List CV) (h : Cls w v l) (hn : l.length < 1000000) :
    Calls Tryd.prog 27 #[v] w fun e w' => ∃ v', e = .returned v' ∧ w'.ownsRow w.heap.size 3 1 v' (plcK l l.length).length ((plcK l l.length).map (Value.int .i64)) ∧ Below w.heap.size w w' := by
  obtain ⟨i0, hi, hz0, hz1, hz2⟩ := info_parts infoI
  obtain ⟨A, cap, rfl, _, hcl⟩ := h
  have HC := Lib.hid hcl
  clear hcl
  go_enter Tryd.func27, Tryd.ntmps27
  go_wp2_with fail
  go_loopw [3, 4] (fun ov i wr => ∃ k : Nat, k ≤ l.length ∧ i = .int .i64 k ∧ wr.ownsRow w.heap.size 3 1 ov (plcK l k).length ((plcK l k).map (Value.int .i64)) ∧ Below w.heap.size w wr) (fun _ i _ => l.length - (intOf i).toNat)
  case atStart => exact ⟨0, Nat.zero_le _, rfl, World.ownsRow_lit (base := w.heap.size) (e := 3) (size := 1) w #[] 0 (Nat.le_refl _) (by decide) rfl, (Below.refl _ _).alloc (Nat.le_refl _) _⟩
  case round =>
    obtain ⟨k, hk, rfl, hrow, hB⟩ := hrel
    have HR := Lib.hid hrow
    have HB := Lib.hid hB
    have hlk := plcK_len l k
    have hsz := hB.size
    by_cases hp : k < l.length
    · obtain ⟨q, hq⟩ : ∃ q, l[k]? = some q := ⟨_, List.getElem?_eq_getElem hp⟩
      obtain ⟨hpq, b2, z2, rfl, hbl2, hcq⟩ := HC.out k q hq
      have HQ := Lib.hid (mapped_kind hq)
      have HSN := Lib.hid (plcK_snoc l k)
      have k2 : World.cell? wr ⟨b2, z2 + k * 15 + 2, none⟩ = some (.int .i64 q.1.op.kind) := (hB.cell (p := ⟨b2, z2 + k * 15 + 2, none⟩) hbl2).trans (hcq 2 _ rfl)
      obtain ⟨kd, hkd⟩ : ∃ x, x = q.1.op.kind := ⟨_, rfl⟩
      rw [← hkd] at k2 HQ
      clear hq hpq hcq hB hkd
      by_cases h1 : 1 ≤ kd
      · by_cases h9 : kd ≤ 9
        · have HSN1 := Lib.hid (show plcK l (k + 1) = plcK l k ++ [(k : Int)] by rw [HSN.out, HQ.out, decide_eq_true h1, decide_eq_true h9]; simp)
          go_wp2_with (at_builtin; refine wpList_append_own _ rfl _ _ 52 rfl w.heap.size 3 i0 (.int .i64 0) 1 8 Tryd.underlying52 hi hz0 hz1 hz2 rfl (by decide) _ _ _ rfl (hrow.alloc _) _ 1 1 [.int .i64 k] rfl rfl (cell_one_new _ _ _) (by simp [Value.oneCell']) (by simp [maxLen]; omega) (by omega) (by simp; omega) ?_; intro v9 w9 hown9 hgrow9 hnil9; have HO := Lib.hid hown9; have HG := Lib.hid hgrow9; clear hown9 hgrow9 hnil9)
          refine ⟨⟨k + 1, by omega, by go_num, ?_, (HB.out.alloc hsz _).grown HG.out (by simp; omega) (fun gg hgg => (World.ownsRow.lt hrow gg hgg).1)⟩, by show l.length - ((k : Int) + 1).toNat < l.length - (k : Int).toNat; omega⟩
          rw [HSN1.out]
          have := HO.out
          simpa using this
        · have HSN1 := Lib.hid (show plcK l (k + 1) = plcK l k ++ [] by rw [HSN.out, HQ.out, decide_eq_false h9, Bool.and_false]; simp)
          clear hrow
          go_wp2_with fail
          refine ⟨⟨k + 1, by omega, by go_num, ?_, HB.out⟩, by show l.length - ((k : Int) + 1).toNat < l.length - (k : Int).toNat; omega⟩
          rw [HSN1.out, List.append_nil]
          exact HR.out
      · have HSN1 := Lib.hid (show plcK l (k + 1) = plcK l k ++ [] by rw [HSN.out, HQ.out, decide_eq_false h1, Bool.false_and]; simp)
        clear hrow
        go_wp2_with fail
        refine ⟨⟨k + 1, by omega, by go_num, ?_, HB.out⟩, by show l.length - ((k : Int) + 1).toNat < l.length - (k : Int).toNat; omega⟩
        rw [HSN1.out, List.append_nil]
        exact HR.out
    · obtain rfl : k = l.length := by omega
      clear hB hrow
      go_wp2_with fail
      go_ret
      exact ⟨_, rfl, HR.out, HB.out⟩
theorem its_of_owns {w : World} {b : Nat} {v : Value} {row : List Int} (h : w.ownsRow b 3 1 v row.length (row.map (Value.int .i64))) : Its w v row := by
  obtain ⟨A, cap, rfl⟩ := owns_shape h
  obtain ⟨_, h1 | ⟨g, cap', cur, e, hg, hh, hc, hm, hs, ht⟩⟩ := id h
  · obtain ⟨e, h0⟩ := h1
    have : row = [] := List.eq_nil_of_length_eq_zero h0
    subst this
    injection e with e1 e2 e3
    subst e1
    exact ⟨none, cap, rfl, Nat.zero_le _, fun j x hx => by simp at hx⟩
  · injection e with e1 e2 e3
    subst e1
    refine ⟨_, cap, rfl, by omega, fun j x hx => ⟨g, 0, rfl, (World.ownsRow.lt h g rfl).2, ?_⟩⟩
    have := h.cells (g := g) rfl j (.int .i64 x) (by simp [hx])
    rwa [add0, ← Nat.zero_add j] at this
def kindAt (l : List CV) (i : Nat) : Int := match l[i]? with | some q => q.1.op.kind | none => 0
def ofK (l : List CV) (kd : Int) (k : Nat) : List Int := ((List.range k).filter fun i => decide (kindAt l i = kd)).map fun (i : Nat) => (i : Int)
theorem ofK_snoc (l : List CV) (kd : Int) (k : Nat) : ofK l kd (k + 1) = ofK l kd k ++ (if kindAt l k = kd then [(k : Int)] else []) := by
  unfold ofK
  rw [List.range_succ, List.filter_append, List.map_append]
  by_cases h : kindAt l k = kd <;> simp [h]
theorem ofK_len (l : List CV) (kd : Int) (k : Nat) : (ofK l kd k).length ≤ k := by
  unfold ofK
  rw [List.length_map]
  exact Nat.le_trans (List.length_filter_le _ _) (by simp)
set_option maxHeartbeats 2000000 in
theorem clos_of (w : World) (kd k : Int) (pb : Nat) (hc : w.cell? ⟨pb, 0, none⟩ = some (.int .i64 kd)) :
    Calls Tryd.prog 66 #[.int .i64 k, .pointer (some ⟨pb, 0, none⟩)] w fun e w' => e = .returned (.bool (decide (k = kd))) ∧ w' = w := by
  go_enter Tryd.func66, Tryd.ntmps66
  go_wp2_with fail
  go_ret
  exact ⟨bool_ret (by rw [Bool.eq_iff_iff]; simp), rfl⟩
set_option maxRecDepth 100000 in
set_option maxHeartbeats 8000000 in
theorem places_any (w : World) (v : Value) (l : List CV) (kd : Int) (pb : Nat) (h : Cls w v l) (hn : l.length < 1000000) (hc : w.cell? ⟨pb, 0, none⟩ = some (.int .i64 kd)) (hpb : pb < w.heap.size) :
    Calls Tryd.prog 64 #[v, .func (.func 66) #[] #[.pointer (some ⟨pb, 0, none⟩)]] w fun e w' => ∃ v', e = .returned v' ∧ w'.ownsRow w.heap.size 3 1 v' (ofK l kd l.length).length ((ofK l kd l.length).map (Value.int .i64)) ∧ Below w.heap.size w w' := by
  obtain ⟨i0, hi, hz0, hz1, hz2⟩ := info_parts infoI
  obtain ⟨A, cap, rfl, _, hcl⟩ := h
  have HC := Lib.hid hcl
  have HK := Lib.hid hc
  clear hcl hc
  go_enter Tryd.func64, Tryd.ntmps64
  go_wp2_with fail
  go_loopw [5, 10] (fun ov i wr => ∃ k : Nat, k ≤ l.length ∧ i = .int .i64 k ∧ wr.ownsRow w.heap.size 3 1 ov (ofK l kd k).length ((ofK l kd k).map (Value.int .i64)) ∧ Below w.heap.size w wr) (fun _ i _ => l.length - (intOf i).toNat)
  case atStart => exact ⟨0, Nat.zero_le _, rfl, World.ownsRow_nil _ _ _ _, Below.refl _ _⟩
  case round =>
    obtain ⟨k, hk, rfl, hrow, hB⟩ := hrel
    have HR := Lib.hid hrow
    have HB := Lib.hid hB
    have hlk := ofK_len l kd k
    have hsz := hB.size
    by_cases hp : k < l.length
    · obtain ⟨q, hq⟩ : ∃ q, l[k]? = some q := ⟨_, List.getElem?_eq_getElem hp⟩
      obtain ⟨hpq, b2, z2, rfl, hbl2, hcq⟩ := HC.out k q hq
      obtain ⟨Ap, cp, ep, _⟩ := id hpq
      rw [ep] at hcq
      have HQ := Lib.hid (show kindAt l k = q.1.op.kind by unfold kindAt; rw [hq])
      have HSN := Lib.hid (ofK_snoc l kd k)
      have k0 : World.cell? wr ⟨b2, z2 + k * 15, none⟩ = some (.int .i64 q.1.thread) := (hB.cell (p := ⟨b2, z2 + k * 15, none⟩) hbl2).trans (hcq 0 _ rfl)
      have k1 : World.cell? wr ⟨b2, z2 + k * 15 + 1, none⟩ = some (.int .i64 q.1.index) := (hB.cell (p := ⟨b2, z2 + k * 15 + 1, none⟩) hbl2).trans (hcq 1 _ rfl)
      have k2 : World.cell? wr ⟨b2, z2 + k * 15 + 2, none⟩ = some (.int .i64 q.1.op.kind) := (hB.cell (p := ⟨b2, z2 + k * 15 + 2, none⟩) hbl2).trans (hcq 2 _ rfl)
      have k3 : World.cell? wr ⟨b2, z2 + k * 15 + 3, none⟩ = some (.string q.1.op.key) := (hB.cell (p := ⟨b2, z2 + k * 15 + 3, none⟩) hbl2).trans (hcq 3 _ rfl)
      have k4 : World.cell? wr ⟨b2, z2 + k * 15 + 4, none⟩ = some (.string q.1.op.value) := (hB.cell (p := ⟨b2, z2 + k * 15 + 4, none⟩) hbl2).trans (hcq 4 _ rfl)
      have k5 : World.cell? wr ⟨b2, z2 + k * 15 + 5, none⟩ = some (.string q.1.op.old) := (hB.cell (p := ⟨b2, z2 + k * 15 + 5, none⟩) hbl2).trans (hcq 5 _ rfl)
      have k6 : World.cell? wr ⟨b2, z2 + k * 15 + 6, none⟩ = some (.int .i64 q.1.begin_) := (hB.cell (p := ⟨b2, z2 + k * 15 + 6, none⟩) hbl2).trans (hcq 6 _ rfl)
      have k7 : World.cell? wr ⟨b2, z2 + k * 15 + 7, none⟩ = some (.int .i64 q.1.end_) := (hB.cell (p := ⟨b2, z2 + k * 15 + 7, none⟩) hbl2).trans (hcq 7 _ rfl)
      have k8 : World.cell? wr ⟨b2, z2 + k * 15 + 8, none⟩ = some (.bool q.1.done) := (hB.cell (p := ⟨b2, z2 + k * 15 + 8, none⟩) hbl2).trans (hcq 8 _ rfl)
      have k9 : World.cell? wr ⟨b2, z2 + k * 15 + 9, none⟩ = some (.int .i64 q.1.reply.err) := (hB.cell (p := ⟨b2, z2 + k * 15 + 9, none⟩) hbl2).trans (hcq 9 _ rfl)
      have k10 : World.cell? wr ⟨b2, z2 + k * 15 + 10, none⟩ = some (.bool q.1.reply.had) := (hB.cell (p := ⟨b2, z2 + k * 15 + 10, none⟩) hbl2).trans (hcq 10 _ rfl)
      have k11 : World.cell? wr ⟨b2, z2 + k * 15 + 11, none⟩ = some (.bool q.1.reply.did) := (hB.cell (p := ⟨b2, z2 + k * 15 + 11, none⟩) hbl2).trans (hcq 11 _ rfl)
      have k12 : World.cell? wr ⟨b2, z2 + k * 15 + 12, none⟩ = some (.string q.1.reply.value) := (hB.cell (p := ⟨b2, z2 + k * 15 + 12, none⟩) hbl2).trans (hcq 12 _ rfl)
      have k13 : World.cell? wr ⟨b2, z2 + k * 15 + 13, none⟩ = some (.int .i64 q.1.reply.n) := (hB.cell (p := ⟨b2, z2 + k * 15 + 13, none⟩) hbl2).trans (hcq 13 _ rfl)
      have k14 : World.cell? wr ⟨b2, z2 + k * 15 + 14, none⟩ = some (.slice Ap q.1.reply.pairs.length cp) := (hB.cell (p := ⟨b2, z2 + k * 15 + 14, none⟩) hbl2).trans (hcq 14 _ rfl)
      have hrow1 := hrow.alloc (.cells #[.int .i64 q.1.thread, .int .i64 q.1.index, .int .i64 q.1.op.kind, .string q.1.op.key, .string q.1.op.value, .string q.1.op.old, .int .i64 q.1.begin_, .int .i64 q.1.end_, .bool q.1.done, .int .i64 q.1.reply.err, .bool q.1.reply.had, .bool q.1.reply.did, .string q.1.reply.value, .int .i64 q.1.reply.n, .slice Ap q.1.reply.pairs.length cp] 50)
      have hg1 := hB.alloc hsz (.cells #[.int .i64 q.1.thread, .int .i64 q.1.index, .int .i64 q.1.op.kind, .string q.1.op.key, .string q.1.op.value, .string q.1.op.old, .int .i64 q.1.begin_, .int .i64 q.1.end_, .bool q.1.done, .int .i64 q.1.reply.err, .bool q.1.reply.had, .bool q.1.reply.did, .string q.1.reply.value, .int .i64 q.1.reply.n, .slice Ap q.1.reply.pairs.length cp] 50)
      obtain ⟨WC, hWC⟩ : ∃ W, W = wr.alloc (.cells #[.int .i64 q.1.thread, .int .i64 q.1.index, .int .i64 q.1.op.kind, .string q.1.op.key, .string q.1.op.value, .string q.1.op.old, .int .i64 q.1.begin_, .int .i64 q.1.end_, .bool q.1.done, .int .i64 q.1.reply.err, .bool q.1.reply.had, .bool q.1.reply.did, .string q.1.reply.value, .int .i64 q.1.reply.n, .slice Ap q.1.reply.pairs.length cp] 50) := ⟨_, rfl⟩
      rw [← hWC] at hrow1 hg1
      have HWC := Lib.hid hWC
      have HB1 := Lib.hid hg1
      have hkk := (hg1.cell (p := ⟨pb, 0, none⟩) hpb).trans HK.out
      have HKK := Lib.hid hkk
      clear hq hpq ep hcq hB hg1 hkk hrow hWC
      go_wp2_with fail
      rw [← HWC.out]
      refine (clos_of _ kd q.1.op.kind pb HKK.out).mono ?_
      clear k0 k1 k2 k3 k4 k5 k6 k7 k8 k9 k10 k11 k12 k13 k14
      by_cases hke : q.1.op.kind = kd
      · rw [decide_eq_true hke]
        rintro e w1 ⟨rfl, hw1⟩
        subst hw1
        have HSN1 := Lib.hid (HSN.out.trans (by rw [if_pos (HQ.out.trans hke)]))
        have hsz1 := HB1.out.size
        clear hke
        go_wp2_with (at_builtin; refine wpList_append_own _ rfl _ _ 52 rfl w.heap.size 3 i0 (.int .i64 0) 1 8 Tryd.underlying52 hi hz0 hz1 hz2 rfl (by decide) _ _ _ rfl (hrow1.alloc _) _ 1 1 [.int .i64 k] rfl rfl (cell_one_new _ _ _) (by simp [Value.oneCell']) (by simp [maxLen]; omega) (by omega) (by simp; omega) ?_; intro v9 w9 hown9 hgrow9 hnil9; have HO := Lib.hid hown9; have HG := Lib.hid hgrow9; clear hown9 hgrow9 hnil9)
        refine ⟨⟨k + 1, by omega, by go_num, ?_, (HB1.out.alloc hsz1 _).grown HG.out (by simp; omega) (fun gg hgg => (World.ownsRow.lt hrow1 gg hgg).1)⟩, by show l.length - ((k : Int) + 1).toNat < l.length - (k : Int).toNat; omega⟩
        rw [HSN1.out]
        have := HO.out
        simpa using this
      · rw [decide_eq_false hke]
        rintro e w1 ⟨rfl, hw1⟩
        subst hw1
        have HSN1 := Lib.hid (HSN.out.trans (by rw [if_neg (by rw [HQ.out]; exact hke)]))
        have HR1 := Lib.hid hrow1
        clear hke hrow1
        go_wp2_with fail
        refine ⟨⟨k + 1, by omega, by go_num, ?_, HB1.out⟩, by show l.length - ((k : Int) + 1).toNat < l.length - (k : Int).toNat; omega⟩
        rw [HSN1.out, List.append_nil]
        exact HR1.out
    · obtain rfl : k = l.length := by omega
      clear hB hrow
      go_wp2_with fail
      go_ret
      exact ⟨_, rfl, HR.out, HB.out⟩
set_option maxHeartbeats 4000000 in
theorem of_any (w : World) (v : Value) (l : List CV) (kd : Int) (h : Cls w v l) (hn : l.length < 1000000) :
    Calls Tryd.prog 28 #[v, .int .i64 kd] w fun e w' => ∃ v', e = .returned v' ∧ w'.ownsRow w.heap.size 3 1 v' (ofK l kd l.length).length ((ofK l kd l.length).map (Value.int .i64)) ∧ Below w.heap.size w w' := by
  have hb0 := (Below.refl w.heap.size w).alloc (Nat.le_refl _) (.cells #[.int .i64 kd] 3)
  have hx := heap_alloc_new w (.cells #[.int .i64 kd] 3)
  have C := Lib.hid (places_any _ v l kd w.heap.size (h.below hb0) hn (cell_of' hx 0) (Array.getElem?_eq_some_iff.1 hx).1)
  have B0 := Lib.hid hb0
  have hsz := hb0.size
  obtain ⟨A, cap, rfl, _⟩ := h
  clear hb0 hx
  go_enter Tryd.func28, Tryd.ntmps28
  go_wp2_with fail
  refine C.out.mono ?_
  rintro e w1 ⟨v1, rfl, hr, hb⟩
  have HR := Lib.hid (row_base hr hsz)
  have HB := Lib.hid (B0.out.trans (hb.mono hsz))
  obtain ⟨A1, c1, rfl⟩ := owns_shape hr
  clear hr hb
  go_wp2_with fail
  go_ret
  exact ⟨_, rfl, HR.out, HB.out⟩

set_option maxRecDepth 100000 in
set_option maxHeartbeats 8000000 in
theorem of_ref (w : World) (v : Value) (l : List CV) (kd : Int) (h : Cls w v l) (hn : l.length < 1000000) :
    Calls Tryd.prog 29 #[v, .int .i64 kd] w fun e w' => ∃ v', e = .returned v' ∧ w'.ownsRow w.heap.size 3 1 v' (ofK l kd l.length).length ((ofK l kd l.length).map (Value.int .i64)) ∧ Below w.heap.size w w' := by
  obtain ⟨i0, hi, hz0, hz1, hz2⟩ := info_parts infoI
  obtain ⟨A, cap, rfl, _, hcl⟩ := h
  have HC := Lib.hid hcl
  clear hcl
  go_enter Tryd.func29, Tryd.ntmps29
  go_wp2_with fail
  go_loopw [5, 6] (fun ov i wr => ∃ k : Nat, k ≤ l.length ∧ i = .int .i64 k ∧ wr.ownsRow w.heap.size 3 1 ov (ofK l kd k).length ((ofK l kd k).map (Value.int .i64)) ∧ Below w.heap.size w wr) (fun _ i _ => l.length - (intOf i).toNat)
  case atStart => exact ⟨0, Nat.zero_le _, rfl, World.ownsRow_lit (base := w.heap.size) (e := 3) (size := 1) w #[] 0 (Nat.le_refl _) (by decide) rfl, (Below.refl _ _).alloc (Nat.le_refl _) _⟩
  case round =>
    obtain ⟨k, hk, rfl, hrow, hB⟩ := hrel
    have HR := Lib.hid hrow
    have HB := Lib.hid hB
    have hlk := ofK_len l kd k
    have hsz := hB.size
    by_cases hp : k < l.length
    · obtain ⟨q, hq⟩ : ∃ q, l[k]? = some q := ⟨_, List.getElem?_eq_getElem hp⟩
      obtain ⟨hpq, b2, z2, rfl, hbl2, hcq⟩ := HC.out k q hq
      have HQ := Lib.hid (show kindAt l k = q.1.op.kind by unfold kindAt; rw [hq])
      have HSN := Lib.hid (ofK_snoc l kd k)
      have k2 : World.cell? wr ⟨b2, z2 + k * 15 + 2, none⟩ = some (.int .i64 q.1.op.kind) := (hB.cell (p := ⟨b2, z2 + k * 15 + 2, none⟩) hbl2).trans (hcq 2 _ rfl)
      obtain ⟨kq, hkq⟩ : ∃ x, x = q.1.op.kind := ⟨_, rfl⟩
      rw [← hkq] at k2 HQ
      clear hq hpq hcq hB hkq
      by_cases h1 : kq = kd
      · have HSN1 := Lib.hid (show ofK l kd (k + 1) = ofK l kd k ++ [(k : Int)] by rw [HSN.out, if_pos (by rw [HQ.out]; exact h1)])
        have b1 : (kq == kd) = true := by simpa using h1
        go_wp2_with (at_builtin; refine wpList_append_own _ rfl _ _ 52 rfl w.heap.size 3 i0 (.int .i64 0) 1 8 Tryd.underlying52 hi hz0 hz1 hz2 rfl (by decide) _ _ _ rfl (hrow.alloc _) _ 1 1 [.int .i64 k] rfl rfl (cell_one_new _ _ _) (by simp [Value.oneCell']) (by simp [maxLen]; omega) (by omega) (by simp; omega) ?_; intro v9 w9 hown9 hgrow9 hnil9; have HO := Lib.hid hown9; have HG := Lib.hid hgrow9; clear hown9 hgrow9 hnil9)
        refine ⟨⟨k + 1, by omega, by go_num, ?_, (HB.out.alloc hsz _).grown HG.out (by simp; omega) (fun gg hgg => (World.ownsRow.lt hrow gg hgg).1)⟩, by show l.length - ((k : Int) + 1).toNat < l.length - (k : Int).toNat; omega⟩
        rw [HSN1.out]
        have := HO.out
        simpa using this
      · have HSN1 := Lib.hid (show ofK l kd (k + 1) = ofK l kd k ++ [] by rw [HSN.out, if_neg (by rw [HQ.out]; exact h1)])
        have b1 : (kq == kd) = false := by simpa using h1
        clear hrow
        go_wp2_with fail
        refine ⟨⟨k + 1, by omega, by go_num, ?_, HB.out⟩, by show l.length - ((k : Int) + 1).toNat < l.length - (k : Int).toNat; omega⟩
        rw [HSN1.out, List.append_nil]
        exact HR.out
    · obtain rfl : k = l.length := by omega
      clear hB hrow
      go_wp2_with fail
      go_ret
      exact ⟨_, rfl, HR.out, HB.out⟩
set_option maxHeartbeats 4000000 in
theorem ints_ref (w : World) (v u : Value) (a b : List Int) (h : Its w v a) (h' : Its w u b) (hn : a.length < 1000000) (hn' : b.length < 1000000) :
    Calls Tryd.prog 25 #[v, u] w fun e w' => e = .returned (.bool (decide (a = b))) ∧ Below w.heap.size w w' := by
  obtain ⟨A, cap, rfl, _, hc⟩ := h
  obtain ⟨B, cap', rfl, _, hc'⟩ := h'
  have HC := Lib.hid hc
  have HC' := Lib.hid hc'
  clear hc hc'
  by_cases hl : a.length = b.length
  case neg =>
    have HF := Lib.hid (show decide (a = b) = false by rw [decide_eq_false_iff_not]; intro e; exact hl (by rw [e]))
    have hb0 : (a.length != b.length) = true := by simp [hl]
    have hb1 : ((a.length : Int) != (b.length : Int)) = true := by simp; omega
    go_enter Tryd.func25, Tryd.ntmps25
    go_wp2_with fail
    go_ret
    exact ⟨bool_ret HF.out.symm, Below.refl _ _⟩
  have hlb : b.length = a.length := hl.symm
  rw [hlb]
  have HL := Lib.hid hl
  clear hl hlb
  go_enter Tryd.func25, Tryd.ntmps25
  go_wp2_with fail
  go_loopw [5] (fun i wr => ∃ k : Nat, k ≤ a.length ∧ i = .int .i64 k ∧ a.take k = b.take k ∧ ∃ n, wr = w.drewN n) (fun i _ => a.length - (intOf i).toNat)
  case atStart => exact ⟨0, Nat.zero_le _, rfl, rfl, 0, rfl⟩
  case round =>
    obtain ⟨k, hk, rfl, hs, n, rfl⟩ := hrel
    have HS := Lib.hid hs
    clear hs
    by_cases hp : k < a.length
    · obtain ⟨x, hx⟩ : ∃ y, a[k]? = some y := ⟨_, List.getElem?_eq_getElem hp⟩
      obtain ⟨y, hy⟩ : ∃ y, b[k]? = some y := ⟨_, List.getElem?_eq_getElem (by rw [← HL.out]; exact hp)⟩
      obtain ⟨b1, z1, rfl, hbl1, hcell1⟩ := HC.out k x hx
      obtain ⟨b2, z2, rfl, hbl2, hcell2⟩ := HC'.out k y hy
      have HX := Lib.hid hx
      have HY := Lib.hid hy
      clear hx hy
      by_cases he : x = y
      · subst he
        go_wp2_with fail
        go_quiet (fail)
        go_wp2_with fail
        refine ⟨⟨k + 1, by omega, by go_num, ?_, n + nq, rfl⟩, by show a.length - ((k : Int) + 1).toNat < a.length - (k : Int).toNat; omega⟩
        rw [take_snoc HX.out, take_snoc HY.out, HS.out]
      · have hb : (x != y) = true := by simp [he]
        have HF := Lib.hid (show decide (a = b) = false by
          rw [decide_eq_false_iff_not]
          intro e
          have h1 := HX.out
          rw [e, HY.out] at h1
          exact he (Option.some.inj h1).symm)
        go_wp2_with fail
        go_quiet (fail)
        go_wp2_with fail
        go_ret
        exact ⟨bool_ret HF.out.symm, below_drewN (below_drewN (Below.refl _ _) n) nq⟩
    · have HT := Lib.hid (show decide (a = b) = true by
        rw [decide_eq_true_eq]
        have := HS.out
        rwa [List.take_of_length_le (by omega), List.take_of_length_le (by rw [← HL.out]; omega)] at this)
      go_wp2_with fail
      go_ret
      exact ⟨bool_ret HT.out.symm, below_drewN (Below.refl _ _) n⟩
end Go.Proofs.YtdibkhddhgaghaaDoor.Hs
