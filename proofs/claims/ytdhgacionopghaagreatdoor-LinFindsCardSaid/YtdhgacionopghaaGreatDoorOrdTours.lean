/- order: places, Of, Tours. -/
import Derived.Test.YtdhgacionopghaaGreatDoorOrdRight
import Derived.Test.YtdhgacionopghaaGreatDoorOrdSpan
import Derived.Test.YtdhgacionopghaaGreatDoorOrdMaps
import Derived.Test.YtdhgacionopghaaGreatDoorBelowQuiet
import Derived.IntWalk
namespace Go.Proofs.YtdhgacionopghaaGreatDoor.Od
open Go.RowKit Go.Shelf Dc DcM DcW DcI DcR DcL Sp Bq
set_option linter.unusedVariables false
theorem its_of_owns {w : World} {b : Nat} {v : Value} {row : List Int} (h : w.ownsRow b 3 1 v row.length (row.map (Value.int .i64))) : Its w v row := by
  obtain ⟨A, cap, rfl⟩ := owns_shape h
  obtain ⟨_, h1 | ⟨g, cap', cur, e, hg, hh, hc, hm, hs, ht⟩⟩ := id h
  · obtain ⟨e, h0⟩ := h1
    have : row = [] := List.eq_nil_of_length_eq_zero h0
    subst this
    injection e with e1 e2 e3
    subst e1
    exact ⟨none, cap, rfl, Nat.zero_le _, fun j x hx => by simp at hx⟩
  · injection e with e1 e2 e3
    subst e1
    refine ⟨_, cap, rfl, by omega, fun j x hx => ⟨g, 0, rfl, (World.ownsRow.lt h g rfl).2, ?_⟩⟩
    have := h.cells (g := g) rfl j (.int .i64 x) (by simp [hx])
    rwa [add0, ← Nat.zero_add j] at this
def kindAt (l : List CV) (i : Nat) : Int := match l[i]? with | some q => q.1.op.kind | none => 0
def ofK (l : List CV) (kd : Int) (k : Nat) : List Int := ((List.range k).filter fun i => decide (kindAt l i = kd)).map fun (i : Nat) => (i : Int)
theorem ofK_snoc (l : List CV) (kd : Int) (k : Nat) : ofK l kd (k + 1) = ofK l kd k ++ (if kindAt l k = kd then [(k : Int)] else []) := by
  unfold ofK
  rw [List.range_succ, List.filter_append, List.map_append]
  by_cases h : kindAt l k = kd <;> simp [h]
theorem ofK_len (l : List CV) (kd : Int) (k : Nat) : (ofK l kd k).length ≤ k := by
  unfold ofK
  rw [List.length_map]
  exact Nat.le_trans (List.length_filter_le _ _) (by simp)
theorem ofK_mem {l : List CV} {kd : Int} {k : Nat} {x : Int} (h : x ∈ ofK l kd k) : ∃ n : Nat, x = n ∧ n < k ∧ kindAt l n = kd := by
  unfold ofK at h
  obtain ⟨n, hn, rfl⟩ := List.mem_map.1 h
  obtain ⟨h1, h2⟩ := List.mem_filter.1 hn
  exact ⟨n, rfl, by simpa using h1, by simpa using h2⟩

set_option maxHeartbeats 2000000 in
theorem clos_of (w : World) (kd k : Int) (pb : Nat) (hc : w.cell? ⟨pb, 0, none⟩ = some (.int .i64 kd)) :
    Calls Tryz.prog 84 #[.int .i64 k, .pointer (some ⟨pb, 0, none⟩)] w fun e w' => e = .returned (.bool (decide (k = kd))) ∧ w' = w := by
  go_enter Tryz.func84, Tryz.ntmps84
  go_wp2_with fail
  go_ret
  exact ⟨bool_ret (by rw [Bool.eq_iff_iff]; simp), rfl⟩
set_option maxRecDepth 100000 in
set_option maxHeartbeats 8000000 in
theorem places_any (w : World) (v : Value) (l : List CV) (kd : Int) (pb : Nat) (h : Cls w v l) (hn : l.length < 1000000) (hc : w.cell? ⟨pb, 0, none⟩ = some (.int .i64 kd)) (hpb : pb < w.heap.size) :
    Calls Tryz.prog 32 #[v, .func (.func 84) #[] #[.pointer (some ⟨pb, 0, none⟩)]] w fun e w' => ∃ v', e = .returned v' ∧ w'.ownsRow w.heap.size 3 1 v' (ofK l kd l.length).length ((ofK l kd l.length).map (Value.int .i64)) ∧ Below w.heap.size w w' := by
  obtain ⟨i0, hi, hz0, hz1, hz2⟩ := info_parts infoI
  obtain ⟨A, cap, rfl, hcl⟩ := h
  have HC := Lib.hid hcl
  have HK := Lib.hid hc
  clear hcl hc
  go_enter Tryz.func32, Tryz.ntmps32
  go_wp2_with fail
  go_loopw [5, 10] (fun ov i wr => ∃ k : Nat, k ≤ l.length ∧ i = .int .i64 k ∧ wr.ownsRow w.heap.size 3 1 ov (ofK l kd k).length ((ofK l kd k).map (Value.int .i64)) ∧ Below w.heap.size w wr) (fun _ i _ => l.length - (intOf i).toNat)
  case atStart => exact ⟨0, Nat.zero_le _, rfl, World.ownsRow_nil _ _ _ _, Below.refl _ _⟩
  case round =>
    obtain ⟨k, hk, rfl, hrow, hB⟩ := hrel
    have HR := Lib.hid hrow
    have HB := Lib.hid hB
    have hlk := ofK_len l kd k
    have hsz := hB.size
    by_cases hp : k < l.length
    · obtain ⟨q, hq⟩ : ∃ q, l[k]? = some q := ⟨_, List.getElem?_eq_getElem hp⟩
      obtain ⟨hpq, _, _, _, _, b2, z2, rfl, hbl2, hcq⟩ := HC.out k q hq
      obtain ⟨Ap, cp, ep, _⟩ := id hpq
      rw [ep] at hcq
      have HQ := Lib.hid (show kindAt l k = q.1.op.kind by unfold kindAt; rw [hq])
      have HSN := Lib.hid (ofK_snoc l kd k)
      have k0 : World.cell? wr ⟨b2, z2 + k * 15, none⟩ = some (.int .i64 q.1.thread) := (hB.cell (p := ⟨b2, z2 + k * 15, none⟩) hbl2).trans (hcq 0 _ rfl)
      have k1 : World.cell? wr ⟨b2, z2 + k * 15 + 1, none⟩ = some (.int .i64 q.1.index) := (hB.cell (p := ⟨b2, z2 + k * 15 + 1, none⟩) hbl2).trans (hcq 1 _ rfl)
      have k2 : World.cell? wr ⟨b2, z2 + k * 15 + 2, none⟩ = some (.int .i64 q.1.op.kind) := (hB.cell (p := ⟨b2, z2 + k * 15 + 2, none⟩) hbl2).trans (hcq 2 _ rfl)
      have k3 : World.cell? wr ⟨b2, z2 + k * 15 + 3, none⟩ = some (.string q.1.op.key) := (hB.cell (p := ⟨b2, z2 + k * 15 + 3, none⟩) hbl2).trans (hcq 3 _ rfl)
      have k4 : World.cell? wr ⟨b2, z2 + k * 15 + 4, none⟩ = some (.string q.1.op.value) := (hB.cell (p := ⟨b2, z2 + k * 15 + 4, none⟩) hbl2).trans (hcq 4 _ rfl)
      have k5 : World.cell? wr ⟨b2, z2 + k * 15 + 5, none⟩ = some (.string q.1.op.old) := (hB.cell (p := ⟨b2, z2 + k * 15 + 5, none⟩) hbl2).trans (hcq 5 _ rfl)
      have k6 : World.cell? wr ⟨b2, z2 + k * 15 + 6, none⟩ = some (.int .i64 q.1.begin_) := (hB.cell (p := ⟨b2, z2 + k * 15 + 6, none⟩) hbl2).trans (hcq 6 _ rfl)
      have k7 : World.cell? wr ⟨b2, z2 + k * 15 + 7, none⟩ = some (.int .i64 q.1.end_) := (hB.cell (p := ⟨b2, z2 + k * 15 + 7, none⟩) hbl2).trans (hcq 7 _ rfl)
      have k8 : World.cell? wr ⟨b2, z2 + k * 15 + 8, none⟩ = some (.bool q.1.done) := (hB.cell (p := ⟨b2, z2 + k * 15 + 8, none⟩) hbl2).trans (hcq 8 _ rfl)
      have k9 : World.cell? wr ⟨b2, z2 + k * 15 + 9, none⟩ = some (.int .i64 q.1.reply.err) := (hB.cell (p := ⟨b2, z2 + k * 15 + 9, none⟩) hbl2).trans (hcq 9 _ rfl)
      have k10 : World.cell? wr ⟨b2, z2 + k * 15 + 10, none⟩ = some (.bool q.1.reply.had) := (hB.cell (p := ⟨b2, z2 + k * 15 + 10, none⟩) hbl2).trans (hcq 10 _ rfl)
      have k11 : World.cell? wr ⟨b2, z2 + k * 15 + 11, none⟩ = some (.bool q.1.reply.did) := (hB.cell (p := ⟨b2, z2 + k * 15 + 11, none⟩) hbl2).trans (hcq 11 _ rfl)
      have k12 : World.cell? wr ⟨b2, z2 + k * 15 + 12, none⟩ = some (.string q.1.reply.value) := (hB.cell (p := ⟨b2, z2 + k * 15 + 12, none⟩) hbl2).trans (hcq 12 _ rfl)
      have k13 : World.cell? wr ⟨b2, z2 + k * 15 + 13, none⟩ = some (.int .i64 q.1.reply.n) := (hB.cell (p := ⟨b2, z2 + k * 15 + 13, none⟩) hbl2).trans (hcq 13 _ rfl)
      have k14 : World.cell? wr ⟨b2, z2 + k * 15 + 14, none⟩ = some (.slice Ap q.1.reply.pairs.length cp) := (hB.cell (p := ⟨b2, z2 + k * 15 + 14, none⟩) hbl2).trans (hcq 14 _ rfl)
      have hrow1 := hrow.alloc (.cells #[.int .i64 q.1.thread, .int .i64 q.1.index, .int .i64 q.1.op.kind, .string q.1.op.key, .string q.1.op.value, .string q.1.op.old, .int .i64 q.1.begin_, .int .i64 q.1.end_, .bool q.1.done, .int .i64 q.1.reply.err, .bool q.1.reply.had, .bool q.1.reply.did, .string q.1.reply.value, .int .i64 q.1.reply.n, .slice Ap q.1.reply.pairs.length cp] 44)
      have hg1 := hB.alloc hsz (.cells #[.int .i64 q.1.thread, .int .i64 q.1.index, .int .i64 q.1.op.kind, .string q.1.op.key, .string q.1.op.value, .string q.1.op.old, .int .i64 q.1.begin_, .int .i64 q.1.end_, .bool q.1.done, .int .i64 q.1.reply.err, .bool q.1.reply.had, .bool q.1.reply.did, .string q.1.reply.value, .int .i64 q.1.reply.n, .slice Ap q.1.reply.pairs.length cp] 44)
      obtain ⟨WC, hWC⟩ : ∃ W, W = wr.alloc (.cells #[.int .i64 q.1.thread, .int .i64 q.1.index, .int .i64 q.1.op.kind, .string q.1.op.key, .string q.1.op.value, .string q.1.op.old, .int .i64 q.1.begin_, .int .i64 q.1.end_, .bool q.1.done, .int .i64 q.1.reply.err, .bool q.1.reply.had, .bool q.1.reply.did, .string q.1.reply.value, .int .i64 q.1.reply.n, .slice Ap q.1.reply.pairs.length cp] 44) := ⟨_, rfl⟩
      rw [← hWC] at hrow1 hg1
      have HWC := Lib.hid hWC
      have HB1 := Lib.hid hg1
      have hkk := (hg1.cell (p := ⟨pb, 0, none⟩) hpb).trans HK.out
      have HKK := Lib.hid hkk
      clear hq hpq ep hcq hB hg1 hkk hrow hWC
      go_wp2_with fail
      rw [← HWC.out]
      refine (clos_of _ kd q.1.op.kind pb HKK.out).mono ?_
      clear k0 k1 k2 k3 k4 k5 k6 k7 k8 k9 k10 k11 k12 k13 k14
      by_cases hke : q.1.op.kind = kd
      · rw [decide_eq_true hke]
        rintro e w1 ⟨rfl, hw1⟩
        subst hw1
        have HSN1 := Lib.hid (HSN.out.trans (by rw [if_pos (HQ.out.trans hke)]))
        have hsz1 := HB1.out.size
        clear hke
        go_wp2_with (at_builtin; refine wpList_append_own _ rfl _ _ 23 rfl w.heap.size 3 i0 (.int .i64 0) 1 8 Tryz.underlying23 hi hz0 hz1 hz2 rfl (by decide) _ _ _ rfl (hrow1.alloc _) _ 1 1 [.int .i64 k] rfl rfl (cell_one_new _ _ _) (by simp [Value.oneCell']) (by simp [maxLen]; omega) (by omega) (by simp; omega) ?_; intro v9 w9 hown9 hgrow9 hnil9; have HO := Lib.hid hown9; have HG := Lib.hid hgrow9; clear hown9 hgrow9 hnil9)
        refine ⟨⟨k + 1, by omega, by go_num, ?_, (HB1.out.alloc hsz1 _).grown HG.out (by simp; omega) (fun gg hgg => (World.ownsRow.lt hrow1 gg hgg).1)⟩, by show l.length - ((k : Int) + 1).toNat < l.length - (k : Int).toNat; omega⟩
        rw [HSN1.out]
        have := HO.out
        simpa using this
      · rw [decide_eq_false hke]
        rintro e w1 ⟨rfl, hw1⟩
        subst hw1
        have HSN1 := Lib.hid (HSN.out.trans (by rw [if_neg (by rw [HQ.out]; exact hke)]))
        have HR1 := Lib.hid hrow1
        clear hke hrow1
        go_wp2_with fail
        refine ⟨⟨k + 1, by omega, by go_num, ?_, HB1.out⟩, by show l.length - ((k : Int) + 1).toNat < l.length - (k : Int).toNat; omega⟩
        rw [HSN1.out, List.append_nil]
        exact HR1.out
    · obtain rfl : k = l.length := by omega
      clear hB hrow
      go_wp2_with fail
      go_ret
      exact ⟨_, rfl, HR.out, HB.out⟩
set_option maxHeartbeats 4000000 in
theorem of_any (w : World) (v : Value) (l : List CV) (kd : Int) (h : Cls w v l) (hn : l.length < 1000000) :
    Calls Tryz.prog 73 #[v, .int .i64 kd] w fun e w' => ∃ v', e = .returned v' ∧ w'.ownsRow w.heap.size 3 1 v' (ofK l kd l.length).length ((ofK l kd l.length).map (Value.int .i64)) ∧ Below w.heap.size w w' := by
  have hb0 := (Below.refl w.heap.size w).alloc (Nat.le_refl _) (.cells #[.int .i64 kd] 3)
  have hx := heap_alloc_new w (.cells #[.int .i64 kd] 3)
  have C := Lib.hid (places_any _ v l kd w.heap.size (h.below hb0) hn (cell_of hx 0) (Array.getElem?_eq_some_iff.1 hx).1)
  have B0 := Lib.hid hb0
  have hsz := hb0.size
  obtain ⟨A, cap, rfl, _⟩ := h
  clear hb0 hx
  go_enter Tryz.func73, Tryz.ntmps73
  go_wp2_with fail
  refine C.out.mono ?_
  rintro e w1 ⟨v1, rfl, hr, hb⟩
  have HR := Lib.hid (row_base hr hsz)
  have HB := Lib.hid (B0.out.trans (hb.mono hsz))
  obtain ⟨A1, c1, rfl⟩ := owns_shape hr
  clear hr hb
  go_wp2_with fail
  go_ret
  exact ⟨_, rfl, HR.out, HB.out⟩

def mapsL (l : List CV) (row : List Int) : List (List Pr) := (List.range (row.length + 1)).map fun j => behindM l (row.take j)
def mapsIn (l : List CV) (row : List Int) (a b : Nat) : List (List Pr) := ((mapsL l row).take (b + 1)).drop a
def tourOk (l : List CV) (row : List Int) (at_ : Int) (ps : List Pr) : Bool := decide (spanF l row at_ ≤ spanT l row at_) && rightM ps (mapsIn l row (spanF l row at_) (spanT l row at_))
def tourBad (l : List CV) (row : List Int) (at_ : Int) : Bool := match l[at_.toNat]? with
  | some q => q.1.done && decide (q.1.reply.err = 0) && !tourOk l row at_ q.1.reply.pairs
  | none => false
theorem tourBad_eq {l : List CV} {row : List Int} {n : Nat} {q : CV} (h : l[n]? = some q) : tourBad l row (n : Int) = (q.1.done && decide (q.1.reply.err = 0) && !tourOk l row (n : Int) q.1.reply.pairs) := by
  unfold tourBad; rw [Int.toNat_natCast, h]
def toursM (l : List CV) (row : List Int) : Int × Bool := match (ofK l 10 l.length).find? (tourBad l row) with | some x => (x, false) | none => (0, true)
theorem tours_at {l : List CV} {row : List Int} {k : Nat} {x : Int} (hx : (ofK l 10 l.length)[k]? = some x) (h0 : ((ofK l 10 l.length).take k).any (tourBad l row) = false) (hb : tourBad l row x = true) : toursM l row = (x, false) := by
  unfold toursM
  have : (ofK l 10 l.length).find? (tourBad l row) = some x := by
    obtain ⟨h1, h2⟩ := List.getElem?_eq_some_iff.1 hx
    rw [← List.take_append_drop k (ofK l 10 l.length), List.find?_append, List.find?_eq_none.2 (by simpa using h0), List.drop_eq_getElem_cons h1, h2, List.find?_cons, hb]
    rfl
  rw [this]
theorem tours_ok {l : List CV} {row : List Int} (h0 : (ofK l 10 l.length).any (tourBad l row) = false) : toursM l row = (0, true) := by
  unfold toursM
  rw [List.find?_eq_none.2 (by simpa using h0)]
theorem mapsL_len (l : List CV) (row : List Int) : (mapsL l row).length = row.length + 1 := by unfold mapsL; simp
theorem mapsL_at {l : List CV} {row : List Int} {j : Nat} (h : j ≤ row.length) : (mapsL l row)[j]? = some (behindM l (row.take j)) := by
  unfold mapsL; rw [List.getElem?_map, List.getElem?_range (by omega)]; rfl
theorem mapsIn_len {l : List CV} {row : List Int} {a b : Nat} (h : a ≤ b) (hb : b ≤ row.length) : (mapsIn l row a b).length = b + 1 - a := by
  unfold mapsIn; rw [List.length_drop, List.length_take, mapsL_len]; omega
theorem mapsIn_at {l : List CV} {row : List Int} {a b j : Nat} (hb : b ≤ row.length) (hj : a + j ≤ b) : (mapsIn l row a b)[j]? = some (behindM l (row.take (a + j))) := by
  unfold mapsIn; rw [List.getElem?_drop, List.getElem?_take_of_lt (by omega), mapsL_at (by omega)]
theorem mapsIn_head {l : List CV} {row : List Int} {a b : Nat} (h : a ≤ b) (hb : b ≤ row.length) : (mapsIn l row a b).headD [] = behindM l (row.take a) := by
  have h0 := mapsIn_at (l := l) (j := 0) hb (show a + 0 ≤ b by omega)
  rw [Nat.add_zero] at h0
  cases hm : mapsIn l row a b with
  | nil => rw [hm] at h0; simp at h0
  | cons x t => rw [hm] at h0; simpa using h0
theorem behind_small (l : List CV) (row : List Int) (j : Nat) (hr : row.length < 10000) : (behindM l (row.take j)).length < 1000000 := by
  have := length_behind l (row.take j) [] List.Pairwise.nil
  simp at this
  unfold behindM; omega
theorem rws_maps {w : World} {l : List CV} {row : List Int} {vs : List Value} {g cap fr tt b0 : Nat} (hmp : Mps w l row row.length vs) (hrow : w.ownsRow b0 38 1 (.slice (some ⟨g, 0, none⟩) (row.length + 1) cap) (row.length + 1) vs) (hr : row.length < 10000) (h1 : fr ≤ tt) (h2 : tt ≤ row.length) (cap' : Nat) :
    Rws w (.slice (some ⟨g, fr, none⟩) (tt + 1 - fr) cap') (mapsIn l row fr tt) := by
  refine ⟨some ⟨g, fr, none⟩, cap', by rw [mapsIn_len h1 h2], fun j m hm => ?_⟩
  have hjl := (List.getElem?_eq_some_iff.1 hm).1
  rw [mapsIn_len h1 h2] at hjl
  rw [mapsIn_at h2 (by omega)] at hm
  obtain rfl := (Option.some.inj hm)
  obtain ⟨x, hx⟩ : ∃ x, vs[fr + j]? = some x := ⟨_, List.getElem?_eq_getElem (by rw [hmp.1]; omega)⟩
  refine ⟨behind_small l row _ hr, g, fr, x, rfl, (World.ownsRow.lt hrow g rfl).2, ?_, Prs.of_owns (hmp.2 _ x hx)⟩
  rw [← add0]
  exact hrow.cells (g := g) rfl _ x hx

theorem spanT_le (l : List CV) (row : List Int) (a : Int) : spanT l row a ≤ row.length := by
  unfold spanT
  split
  · split
    · exact (backTo_le _ row 0 (Nat.zero_le _)).2
    · exact Nat.zero_le _
  · exact Nat.zero_le _
set_option maxRecDepth 100000 in
set_option maxHeartbeats 16000000 in
theorem tours_any (w : World) (v u : Value) (l : List CV) (row : List Int) (h : Cls w v l) (h' : Its w u row) (hn : l.length < 1000000) (hn' : row.length < 10000) (hlp : ∀ (j : Nat) (q : CV), l[j]? = some q → q.1.reply.pairs.length < 100000) :
    Calls Tryz.prog 63 #[v, u] w fun e w' => e = .returned (.tuple #[.int .i64 (toursM l row).1, .bool (toursM l row).2]) ∧ Below w.heap.size w w' := by
  have HL := Lib.hid h
  have HRR := Lib.hid h'
  have HLP := Lib.hid hlp
  have C1 := Lib.hid (maps_any w v u l row h h' hn hn')
  obtain ⟨A, cap, rfl, hcl⟩ := h
  obtain ⟨B, capB, rfl, _, _⟩ := h'
  have HC := Lib.hid hcl
  clear hcl hlp
  go_enter Tryz.func63, Tryz.ntmps63
  go_wp2_with fail
  refine C1.out.mono ?_
  rintro e w1 ⟨v1, vs, rfl, hrow, hmp, hb1⟩
  obtain ⟨g, capM, rfl⟩ := ownsRow_succ hrow
  have hcap : row.length + 1 ≤ capM := by
    obtain ⟨_, h1 | ⟨g', cap', cur, e, hg, hh, hc, hm, hs, ht⟩⟩ := id hrow
    · cases h1.1
    · injection e with e1 e2 e3; omega
  have HM := Lib.hid (And.intro hrow hmp)
  have B1 := Lib.hid hb1
  clear hrow hmp hb1
  go_wp2_with fail
  refine (of_any _ _ l 10 (HL.out.below B1.out) hn).mono ?_
  rintro e w2 ⟨v2, rfl, hr2, hb2⟩
  have HO := Lib.hid (its_of_owns hr2)
  obtain ⟨A2, c2, rfl⟩ := owns_shape hr2
  have hol := ofK_len l 10 l.length
  have B2 := Lib.hid (B1.out.trans (hb2.mono B1.out.size))
  have BM := Lib.hid hb2
  clear hr2 hb2
  go_wp2_with fail
  go_loopw [18] (fun i wr => ∃ k : Nat, k ≤ (ofK l 10 l.length).length ∧ i = .int .i64 k ∧ ((ofK l 10 l.length).take k).any (tourBad l row) = false ∧ Below w2.heap.size w2 wr) (fun i _ => (ofK l 10 l.length).length - (intOf i).toNat)
  case atStart => exact ⟨0, Nat.zero_le _, rfl, rfl, Below.refl _ _⟩
  case round =>
    obtain ⟨k, hk, rfl, hany, hB⟩ := hrel
    have HA := Lib.hid hany
    have HB := Lib.hid hB
    have BW := Lib.hid (B2.out.trans (hB.mono B2.out.size))
    have hBW := BW.out
    clear hany
    by_cases hp : k < (ofK l 10 l.length).length
    · obtain ⟨x, hx⟩ : ∃ x, (ofK l 10 l.length)[k]? = some x := ⟨_, List.getElem?_eq_getElem hp⟩
      obtain ⟨nt, rfl, hnt, hkd⟩ := ofK_mem (List.mem_of_getElem? hx)
      obtain ⟨A6, c6, e6, _, hci⟩ := HO.out.below hB
      injection e6 with e61 e62 e63
      subst e61
      subst e63
      clear e62
      obtain ⟨b6, z6, rfl, hbl6, hcell6⟩ := hci k _ hx
      obtain ⟨q, hq⟩ : ∃ q, l[nt]? = some q := ⟨_, List.getElem?_eq_getElem hnt⟩
      obtain ⟨hpq, _, _, _, _, b2, z2, rfl, hbl2, hcq⟩ := HC.out nt q hq
      have HX := Lib.hid hx
      have HTB := Lib.hid (tourBad_eq (row := row) hq)
      have hlq := HLP.out nt q hq
      obtain ⟨⟨ct, ci, ⟨ok, okey, oval, oold⟩, cb, ce, cd, ⟨re, rh, rd, rv, rn, rp⟩⟩, pv⟩ := q
      dsimp only at hpq hcq hlq HTB
      obtain ⟨Ap, cp, ep, _⟩ := id hpq
      subst ep
      have k0 : World.cell? wr ⟨b2, z2 + nt * 15, none⟩ = some (.int .i64 ct) := (hBW.cell (p := ⟨b2, z2 + nt * 15, none⟩) hbl2).trans (hcq 0 _ rfl)
      have k1 : World.cell? wr ⟨b2, z2 + nt * 15 + 1, none⟩ = some (.int .i64 ci) := (hBW.cell (p := ⟨b2, z2 + nt * 15 + 1, none⟩) hbl2).trans (hcq 1 _ rfl)
      have k2 : World.cell? wr ⟨b2, z2 + nt * 15 + 2, none⟩ = some (.int .i64 ok) := (hBW.cell (p := ⟨b2, z2 + nt * 15 + 2, none⟩) hbl2).trans (hcq 2 _ rfl)
      have k3 : World.cell? wr ⟨b2, z2 + nt * 15 + 3, none⟩ = some (.string okey) := (hBW.cell (p := ⟨b2, z2 + nt * 15 + 3, none⟩) hbl2).trans (hcq 3 _ rfl)
      have k4 : World.cell? wr ⟨b2, z2 + nt * 15 + 4, none⟩ = some (.string oval) := (hBW.cell (p := ⟨b2, z2 + nt * 15 + 4, none⟩) hbl2).trans (hcq 4 _ rfl)
      have k5 : World.cell? wr ⟨b2, z2 + nt * 15 + 5, none⟩ = some (.string oold) := (hBW.cell (p := ⟨b2, z2 + nt * 15 + 5, none⟩) hbl2).trans (hcq 5 _ rfl)
      have k6 : World.cell? wr ⟨b2, z2 + nt * 15 + 6, none⟩ = some (.int .i64 cb) := (hBW.cell (p := ⟨b2, z2 + nt * 15 + 6, none⟩) hbl2).trans (hcq 6 _ rfl)
      have k7 : World.cell? wr ⟨b2, z2 + nt * 15 + 7, none⟩ = some (.int .i64 ce) := (hBW.cell (p := ⟨b2, z2 + nt * 15 + 7, none⟩) hbl2).trans (hcq 7 _ rfl)
      have k8 : World.cell? wr ⟨b2, z2 + nt * 15 + 8, none⟩ = some (.bool cd) := (hBW.cell (p := ⟨b2, z2 + nt * 15 + 8, none⟩) hbl2).trans (hcq 8 _ rfl)
      have k9 : World.cell? wr ⟨b2, z2 + nt * 15 + 9, none⟩ = some (.int .i64 re) := (hBW.cell (p := ⟨b2, z2 + nt * 15 + 9, none⟩) hbl2).trans (hcq 9 _ rfl)
      have k10 : World.cell? wr ⟨b2, z2 + nt * 15 + 10, none⟩ = some (.bool rh) := (hBW.cell (p := ⟨b2, z2 + nt * 15 + 10, none⟩) hbl2).trans (hcq 10 _ rfl)
      have k11 : World.cell? wr ⟨b2, z2 + nt * 15 + 11, none⟩ = some (.bool rd) := (hBW.cell (p := ⟨b2, z2 + nt * 15 + 11, none⟩) hbl2).trans (hcq 11 _ rfl)
      have k12 : World.cell? wr ⟨b2, z2 + nt * 15 + 12, none⟩ = some (.string rv) := (hBW.cell (p := ⟨b2, z2 + nt * 15 + 12, none⟩) hbl2).trans (hcq 12 _ rfl)
      have k13 : World.cell? wr ⟨b2, z2 + nt * 15 + 13, none⟩ = some (.int .i64 rn) := (hBW.cell (p := ⟨b2, z2 + nt * 15 + 13, none⟩) hbl2).trans (hcq 13 _ rfl)
      have k14 : World.cell? wr ⟨b2, z2 + nt * 15 + 14, none⟩ = some (.slice Ap rp.length cp) := (hBW.cell (p := ⟨b2, z2 + nt * 15 + 14, none⟩) hbl2).trans (hcq 14 _ rfl)
      have HPQ := Lib.hid (hpq.below hBW)
      have HSP := Lib.hid (fun W (hw : Below w.heap.size w W) => span_any W _ _ l row (nt : Int) (HL.out.below hw) (HRR.out.below hw) hn hn')
      clear hq hcq hx hB hBW hpq hkd hci
      obtain ⟨WB, hWB⟩ : ∃ W, W = wr := ⟨_, rfl⟩
      subst hWB
      obtain ⟨WC, hWC⟩ : ∃ W, W = WB.alloc (.cells #[.int .i64 ct, .int .i64 ci, .int .i64 ok, .string okey, .string oval, .string oold, .int .i64 cb, .int .i64 ce, .bool cd, .int .i64 re, .bool rh, .bool rd, .string rv, .int .i64 rn, .slice Ap rp.length cp] 44) := ⟨_, rfl⟩
      have hbc : Below WB.heap.size WB WC := by rw [hWC]; exact (Below.refl _ _).alloc (Nat.le_refl _) _
      have hxc : WC.heap[WB.heap.size]? = some (.cells #[.int .i64 ct, .int .i64 ci, .int .i64 ok, .string okey, .string oval, .string oold, .int .i64 cb, .int .i64 ce, .bool cd, .int .i64 re, .bool rh, .bool rd, .string rv, .int .i64 rn, .slice Ap rp.length cp] 44 (0, 0)) := by rw [hWC]; exact heap_alloc_new WB _
      have hxl : WB.heap.size < WC.heap.size := (Array.getElem?_eq_some_iff.1 hxc).1
      have HX2 := Lib.hid hxc
      have HWC := Lib.hid hWC
      have BCW := Lib.hid (BW.out.trans (hbc.mono BW.out.size))
      have BC2 := Lib.hid (HB.out.trans (hbc.mono HB.out.size))
      clear hbc hxc hWC
      cases cd with
      | false =>
        have HN := Lib.hid (show ((ofK l 10 l.length).take (k + 1)).any (tourBad l row) = false by rw [any_snoc HX.out HA.out, HTB.out]; rfl)
        go_wp2_with fail
        rw [← HWC.out]
        exact ⟨⟨k + 1, by omega, by go_num, HN.out, BC2.out⟩, by show (ofK l 10 l.length).length - ((k : Int) + 1).toNat < (ofK l 10 l.length).length - (k : Int).toNat; omega⟩
      | true =>
        by_cases hre : re = 0
        · subst hre
          obtain ⟨fr, hfr⟩ : ∃ f, f = spanF l row (nt : Int) := ⟨_, rfl⟩
          obtain ⟨tt, htt⟩ : ∃ f, f = spanT l row (nt : Int) := ⟨_, rfl⟩
          have htl : tt ≤ row.length := by rw [htt]; exact spanT_le l row _
          have HTB2 := Lib.hid (show tourBad l row (nt : Int) = !(decide (fr ≤ tt) && rightM rp (mapsIn l row fr tt)) by rw [HTB.out]; unfold tourOk; rw [hfr, htt]; rfl)
          rw [← hfr, ← htt] at HSP
          clear hfr htt HTB
          go_wp2_with fail
          rw [← HWC.out]
          refine (HSP.out _ BCW.out).mono ?_
          clear k0 k1 k2 k3 k4 k5 k6 k7 k8 k9 k10 k11 k12 k13 k14 hcell6
          rintro e w3 ⟨rfl, hb3⟩
          have hx3 := (hb3.block _ hxl).trans HX2.out
          have B3 := Lib.hid (BCW.out.trans (hb3.mono BCW.out.size))
          have B32 := Lib.hid (BC2.out.trans (hb3.mono BC2.out.size))
          have c14' : World.cell? w3 ⟨WB.heap.size, 14, none⟩ = some (.slice Ap rp.length cp) := cell_of hx3 14
          have hs3 := hb3.size
          have HP3 := Lib.hid (HPQ.out.below ((show Below WB.heap.size WB WC by rw [HWC.out]; exact (Below.refl _ _).alloc (Nat.le_refl _) _).trans (hb3.mono (Nat.le_of_lt hxl))))
          clear hx3 hb3
          by_cases hft : fr ≤ tt
          · have hd1 : decide ((tt : Int) < (fr : Int)) = false := by rw [decide_eq_false_iff_not]; omega
            have hd2 : decide (tt < fr) = false := by rw [decide_eq_false_iff_not]; omega
            have hfc : fr < capM := by omega
            have hxl3 : WB.heap.size < w3.heap.size := Nat.lt_of_lt_of_le hxl hs3
            have c14 : ∀ p : BelowBy w3, World.cell? p.w ⟨WB.heap.size, 14, none⟩ = some (.slice Ap rp.length cp) := fun p => p.cell hxl3 c14'
            have B13 := BM.out.trans (B32.out.mono BM.out.size)
            have RW3 := Lib.hid (rws_maps (HM.out.2.below B13) (owns_kept HM.out.1 fun j cs f hj => B13.block j (Array.getElem?_eq_some_iff.1 hj).1) hn' hft htl (capM - fr))
            have HIL := Lib.hid (mapsIn_len (l := l) hft htl)
            have HIH := Lib.hid (show ((mapsIn l row fr tt).headD []).length < 1000000 by rw [mapsIn_head hft htl]; exact behind_small l row fr hn')
            have CR := Lib.hid (fun p : BelowBy w3 => right_any p.w _ _ rp (mapsIn l row fr tt) (HP3.out.below p.hb) (by omega) (RW3.out.below p.hb) (by rw [HIL.out]; omega) (by rw [HIL.out]; omega) HIH.out)
            clear B13
            have hs1 : (tt : Int) + 1 ≤ (capM : Int) := by omega
            have hs2 : fr ≤ tt + 1 := by omega
            have hs4 : ¬ capM = fr := by omega
            have hsum : IntKind.i64.wrap ((tt : Int) + 1) = (tt : Int) + 1 := IntWalk.i64_in _ (by omega)
            have hsum0 : (0 : Int) ≤ (tt : Int) + 1 := by omega
            have hsumN : ((tt : Int) + 1).toNat = tt + 1 := by omega
            cases hrm : rightM rp (mapsIn l row fr tt) with
            | true =>
              have CRB := Lib.hid (fun p : BelowBy w3 => calls_bel ((CR.out p).mono fun e w' he => ⟨he.1.trans (by rw [hrm]), he.2⟩))
              have HRM := Lib.hid hrm
              clear hrm
              go_wp2_with fail
              refine wp_region_bel (by kernel_rfl) (by kernel_rfl) ?_
              repeat (quiet_step ((go_at_call 75; exact CRB.out _)))
              refine wpQuiet_nil ?_
              intro _ hw'
              obtain ⟨⟨w5, hb5⟩, hw''⟩ := hw'
              subst hw''
              have B52 := Lib.hid (B32.out.trans (hb5.mono B32.out.size))
              have B5 := Lib.hid (B3.out.trans (hb5.mono B3.out.size))
              clear hb5 c14 hsum hsum0 hsumN hs1 hs4
              have HN := Lib.hid (show ((ofK l 10 l.length).take (k + 1)).any (tourBad l row) = false by rw [any_snoc HX.out HA.out, HTB2.out, decide_eq_true hft, HRM.out]; rfl)
              go_wp2_with fail
              exact ⟨⟨k + 1, by omega, by go_num, HN.out, B52.out⟩, by show (ofK l 10 l.length).length - ((k : Int) + 1).toNat < (ofK l 10 l.length).length - (k : Int).toNat; omega⟩
            | false =>
              have CRB := Lib.hid (fun p : BelowBy w3 => calls_bel ((CR.out p).mono fun e w' he => ⟨he.1.trans (by rw [hrm]), he.2⟩))
              have HRM := Lib.hid hrm
              clear hrm
              go_wp2_with fail
              refine wp_region_bel (by kernel_rfl) (by kernel_rfl) ?_
              repeat (quiet_step ((go_at_call 75; exact CRB.out _)))
              refine wpQuiet_nil ?_
              intro _ hw'
              obtain ⟨⟨w5, hb5⟩, hw''⟩ := hw'
              subst hw''
              have B52 := Lib.hid (B32.out.trans (hb5.mono B32.out.size))
              have B5 := Lib.hid (B3.out.trans (hb5.mono B3.out.size))
              clear hb5 c14 hsum hsum0 hsumN hs1 hs4
              have HT := Lib.hid (tours_at HX.out HA.out (show tourBad l row (nt : Int) = true by rw [HTB2.out, decide_eq_true hft, HRM.out]; rfl))
              go_wp2_with fail
              go_ret2
              exact ⟨by rw [HT.out]; rfl, B5.out⟩
          · have hd1 : decide ((tt : Int) < (fr : Int)) = true := by rw [decide_eq_true_eq]; omega
            have hd2 : decide (tt < fr) = true := by rw [decide_eq_true_eq]; omega
            have HT := Lib.hid (tours_at HX.out HA.out (show tourBad l row (nt : Int) = true by rw [HTB2.out, decide_eq_false hft]; rfl))
            go_wp2_with fail
            go_quiet (fail)
            go_wp2_with fail
            go_ret2
            exact ⟨by rw [HT.out]; rfl, below_drewN B3.out _⟩
        · have hb0 : (re != 0) = true := by simp [hre]
          have HN := Lib.hid (show ((ofK l 10 l.length).take (k + 1)).any (tourBad l row) = false by rw [any_snoc HX.out HA.out, HTB.out, decide_eq_false hre]; rfl)
          go_wp2_with fail
          rw [← HWC.out]
          exact ⟨⟨k + 1, by omega, by go_num, HN.out, BC2.out⟩, by show (ofK l 10 l.length).length - ((k : Int) + 1).toNat < (ofK l 10 l.length).length - (k : Int).toNat; omega⟩
    · have hA := HA.out
      rw [List.take_of_length_le (by omega)] at hA
      have HT := Lib.hid (tours_ok hA)
      clear hA hBW hB
      go_wp2_with fail
      go_ret2
      exact ⟨by rw [HT.out]; rfl, BW.out⟩
end Go.Proofs.YtdhgacionopghaaGreatDoor.Od
