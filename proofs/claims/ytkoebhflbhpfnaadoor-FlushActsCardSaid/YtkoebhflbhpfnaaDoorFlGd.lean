/- flush: who looks is made, and answers; who sweeps is made. flush: who flushes: what lies in memory; its act, its answers, what it takes. flush: who flushes takes an answer, and tells the rest. flush: who flushes is made, or not. flush: awake. -/
import Derived.Test.YtkoebhflbhpfnaaDoorFlGc
import Derived.Deep.RegionHeld3
import Derived.Test.YtkoebhflbhpfnaaDoorFlGa
namespace Go.Proofs.YtkoebhflbhpfnaaDoor.Fl
open Go.RowKit Bq Go.Proofs.YtkoebhflbhpfnaaDoorW.PrintWords Go.Proofs.YtkoebhflbhpfnaaDoorW.PrintLast Go.Proofs.YtkoebhflbhpfnaaDoorW.PrintMore
set_option linter.unusedVariables false
set_option linter.unusedSimpArgs false
def RowPost (w : World) (l : List Int) (e : Ending) (w' : World) : Prop := ∃ v, e = .returned (.tuple #[v, .bool true]) ∧ w'.ownsRow w.heap.size 22 1 v l.length (ws l) ∧ Below w.heap.size w w'
set_option maxRecDepth 100000 in
set_option maxHeartbeats 1000000 in
theorem rresult_any (C : Cf) (hC : COk C) (t : St) (w : World) (B rb mb : Nat) (wv rv : Value) (r : RS) (hR : RAt C t B w rb mb wv rv r) (ha : ract C.desk C.threads C.kept r = none) :
    Calls Tryd.prog 19 #[.pointer (some ⟨rb, 0, none⟩)] w (RowPost w r.rest) := by
  have HA := ract_any C hC t w B rb mb wv rv r hR
  rw [ha] at HA
  unfold encO encA at HA
  have HA' := Lib.hid HA
  have HR := Lib.hid hR
  have HC := Lib.hid hC
  have hB := hR.blk
  have hlt := hB.lt
  unfold RBlk at hB
  have c5 := cell_of' hB 5
  simp only [List.getElem?_toArray, List.getElem?_cons_succ, List.getElem?_cons_zero] at c5
  clear hR hC HA ha hB
  go_enter Tryd.func19, Tryd.ntmps19
  go_wp2_with fail
  refine HA'.out.mono ?_
  rintro e w1 ⟨rfl, hb1⟩
  have HR1 := HR.out.below hb1
  have hlt1 := HR1.blk.lt
  obtain ⟨A, cp, hrv⟩ := own_form HR1.row
  have hB := HR1.blk
  unfold RBlk at hB
  rw [hrv] at hB
  have c11 := cell_of' hB 11
  simp only [List.getElem?_toArray, List.getElem?_cons_succ, List.getElem?_cons_zero] at c11
  have hrow := HR1.row
  rw [hrv] at hrow
  have hle := HR1.le
  have hk := HC.out.kept
  have hreads := (owns_reads hrow (by omega)).2
  have HK := Lib.hid (show r.rest.length ≤ 1000000 by omega)
  have HRD := Lib.hid hreads
  have HB1 := Lib.hid hb1
  clear hB hrow hreads hle hk HR1 hb1 c5 hrv
  go_wp2_with fail
  generalize hW : World.alloc w1 _ = W2
  have hb2 : Below w1.heap.size w1 W2 := by rw [← hW]; exact (Below.refl _ _).alloc (Nat.le_refl _) _
  have HB2 := Lib.hid hb2
  have HCL := Lib.hid (clone_any A cp r.rest W2 (Kd.C_below HRD.out hb2) HK.out)
  clear hb2 hW
  refine HCL.out.mono ?_
  rintro e w3 ⟨v, rfl, hown, hb3⟩
  have HO := Lib.hid hown
  have HB3 := Lib.hid hb3
  clear hown hb3
  go_wp2_with fail
  go_ret2
  have hs := HB1.out.size
  have hs2 := HB2.out.size
  exact ⟨v, rfl, ⟨HO.out.1, by
    rcases HO.out.2 with h | ⟨g, cap, cur, e, hg, h⟩
    · exact Or.inl h
    · exact Or.inr ⟨g, cap, cur, e, by omega, h⟩⟩, (HB1.out.trans (HB2.out.mono hs)).trans (HB3.out.mono (by omega))⟩
set_option maxRecDepth 100000 in
set_option maxHeartbeats 1000000 in
theorem snew_any (C : Cf) (t : St) (w : World) (hD : Dk w) (h : siteB C.desk t.th C.threads t.ke = true) :
    Calls Tryd.prog 14 #[encS C.desk t.th C.threads t.ke t.se] w fun e w' => ∃ sb, e = .returned (.pointer (some ⟨sb, 0, none⟩)) ∧ w.heap.size ≤ sb ∧ SwAt C t w' sb s0 ∧ Below w.heap.size w w' := by
  have HRT := fun W hW => right_any C.desk t.th C.threads t.ke t.se W hW
  rw [h] at HRT
  have hd1 : Dk (w.alloc (.cells #[.int .u64 C.desk, .int .i64 t.th, .int .i64 C.threads, .int .i64 t.ke, .int .u64 t.se] 24)) := hD.below ((Below.refl _ _).alloc (Nat.le_refl _) _)
  have H1 := Lib.hid (HRT _ hd1)
  clear HRT hd1 hD h
  unfold encS at *
  go_enter Tryd.func14, Tryd.ntmps14
  go_wp2_with fail
  refine H1.out.mono ?_
  rintro e w1 ⟨rfl, hb1⟩
  have hx := (hb1.block w.heap.size (by simp)).trans (heap_alloc_new w _)
  have hs := hb1.size
  simp only [World.size_alloc] at hs
  have HB1 := Lib.hid hb1
  have hlt : w.heap.size < w1.heap.size := by omega
  have c0 := cell_of' hx 0
  have c1 := cell_of' hx 1
  have c2 := cell_of' hx 2
  have c3 := cell_of' hx 3
  have c4 := cell_of' hx 4
  simp only [List.getElem?_toArray, List.getElem?_cons_succ, List.getElem?_cons_zero] at c0 c1 c2 c3 c4
  have HS := Lib.hid hs
  clear hx hb1 hs
  go_wp2_with fail
  go_ret
  exact ⟨_, rfl, by have := HS.out; omega, heap_alloc_new w1 _, ((((Below.refl w.heap.size w).alloc (Nat.le_refl _) _).trans (HB1.out.mono (by simp))).alloc (by have := HS.out; omega) _)⟩
/-- At a round's head: the first k boxes are in the map. -/
def LkL (C : Cf) (t : St) (w W : World) (rb mb : Nat) (wv : Value) (k : Nat) : Prop :=
  ∃ D, RBlk C t W rb mb wv (.slice none 0 0) ⟨[], 0, []⟩ ∧ W.ownsRow w.heap.size 22 1 wv C.kept.length (ws C.kept) ∧ OwnF W mb k D ∧ (∀ x, x ∈ C.kept.take k → D.atKey (.int .u64 x) (.lit (.int .i64 0)) = .lit (.int .i64 1)) ∧ w.heap.size ≤ rb ∧ w.heap.size ≤ mb ∧ rb ≠ mb ∧ wv.ownBlock ≠ some rb ∧ wv.ownBlock ≠ some mb ∧ Below w.heap.size w W
theorem own_not_map {W : World} {B : Nat} {v : Value} {n : Nat} {xs : List Value} {mb : Nat} {es : Array MapEntry} {ck : Nat} (h : W.ownsRow B 22 1 v n xs) (hm : W.heap[mb]? = some (.map es ck)) : v.ownBlock ≠ some mb := by
  intro e
  rcases h.2 with ⟨e1, _⟩ | ⟨g, cap, cur, e1, _, hg, _⟩
  · rw [e1] at e; cases e
  · rw [e1] at e
    simp [Value.ownBlock] at e
    subst e
    rw [hg] at hm
    cases hm
theorem own_lower {W : World} {B B' : Nat} {v : Value} {n : Nat} {xs : List Value} (h : W.ownsRow B 22 1 v n xs) (hB : B' ≤ B) : W.ownsRow B' 22 1 v n xs := by
  refine ⟨h.1, ?_⟩
  rcases h.2 with h | ⟨g, cap, cur, e, hg, h⟩
  · exact Or.inl h
  · exact Or.inr ⟨g, cap, cur, e, Nat.le_trans hB hg, h⟩
theorem lkl_b {C : Cf} {t : St} {w W : World} {v : Value} {mb : Nat} (hb : Below w.heap.size w W) (hown : W.ownsRow w.heap.size 22 1 v C.kept.length (ws C.kept)) (hm : W.heap[mb]? = some (.map #[] 0)) (hlo : w.heap.size ≤ mb) :
    LkL C t w (W.alloc (.cells #[.int .u64 C.desk, .int .i64 t.th, .int .i64 C.threads, .int .i64 t.ke, .int .u64 t.se, .bool true, .bool (decide (0 < C.kept.length)), .int .i64 0, v, .int .i64 0, .map (some mb), .slice none 0 0] 58)) W.heap.size mb v 0 := by
  have hlt := (Array.getElem?_eq_some_iff.1 hm).1
  have hal : Below W.heap.size W (W.alloc (.cells #[.int .u64 C.desk, .int .i64 t.th, .int .i64 C.threads, .int .i64 t.ke, .int .u64 t.se, .bool true, .bool (decide (0 < C.kept.length)), .int .i64 0, v, .int .i64 0, .map (some mb), .slice none 0 0] 58)) := (Below.refl _ _).alloc (Nat.le_refl _) _
  refine ⟨.map [], heap_alloc_new W _, own_below hown hal, ?_, fun x hx => by simp at hx, hb.size, hlo, by omega, ?_, own_not_map hown hm, hb.trans (hal.mono hb.size)⟩
  · obtain ⟨es, ck, hb0, F, hs0, hD0⟩ := World.ownsMap_made (H := Unit) W Tryd.prog 22 (plainElem Tryd.prog 3)
    have e0 := hb0.symm.trans (heap_alloc_new W _)
    injection e0 with e0
    injection e0 with e1 e2
    subst e1; subst e2
    exact ⟨#[], 0, (hal.block mb hlt).trans hm, F, hs0, hD0⟩
  · intro e
    have := (hown.lt _ e).2
    omega
theorem lkl_a {C : Cf} {t : St} {w W : World} {v : Value} (hb : Below w.heap.size w W) (hown : W.ownsRow w.heap.size 22 1 v C.kept.length (ws C.kept)) :
    LkL C t w ((W.alloc (.map #[] 0)).alloc (.cells #[.int .u64 C.desk, .int .i64 t.th, .int .i64 C.threads, .int .i64 t.ke, .int .u64 t.se, .bool true, .bool (decide (0 < C.kept.length)), .int .i64 0, v, .int .i64 0, .map (some W.heap.size), .slice none 0 0] 58)) (W.heap.size + 1) W.heap.size v 0 := by
  have hal : Below W.heap.size W (W.alloc (.map #[] 0)) := (Below.refl _ _).alloc (Nat.le_refl _) _
  have := lkl_b (C := C) (t := t) (v := v) (hb.trans (hal.mono hb.size)) (own_below hown hal) (heap_alloc_new W _) hb.size
  simpa using this
theorem lkl_step {C : Cf} {t : St} {w W W' : World} {rb mb : Nat} {wv : Value} {k : Nat} {D : DataW Unit} {x : Int} (hblk : RBlk C t W rb mb wv (.slice none 0 0) ⟨[], 0, []⟩) (hw : W.ownsRow w.heap.size 22 1 wv C.kept.length (ws C.kept))
    (hs : ∀ y, y ∈ C.kept.take k → D.atKey (.int .u64 y) (.lit (.int .i64 0)) = .lit (.int .i64 1)) (hlo : w.heap.size ≤ rb ∧ w.heap.size ≤ mb ∧ rb ≠ mb ∧ wv.ownBlock ≠ some rb ∧ wv.ownBlock ≠ some mb) (hB : Below w.heap.size w W) (hm : OwnF W mb k D) (hx : C.kept[k]? = some x)
    (hown : OwnF W' mb (k + 1) (D.put (.int .u64 x) (.lit (.int .i64 1)))) (hg : W.grownBy W' (some mb)) : LkL C t w W' rb mb wv (k + 1) := by
  have hf : Fr (only mb) W W' := Fr.grown hg (fun j hj => by injection hj with hj; exact hj.symm)
  refine ⟨_, (hf.block rb hblk.lt (fun e => hlo.2.2.1 e)).trans hblk, own_fr hw hf (fun j hj e => hlo.2.2.2.2 (by rw [hj]; exact congrArg some e)), hown, fun y hy => ?_, hlo.1, hlo.2.1, hlo.2.2.1, hlo.2.2.2.1, hlo.2.2.2.2, hB.trans (hf.below (fun j hj => by rw [show j = mb from hj]; exact hlo.2.1) hB.size)⟩
  have hIM : Maps.IsMap D := by obtain ⟨es, ck, _, _, _, rfl⟩ := hm; exact ⟨_, rfl⟩
  by_cases e : y = x
  · subst e
    exact Maps.atKey_put_same hIM (by trivial) _ _
  · rw [Maps.atKey_put_other (by intro e'; injection e' with _ e'; exact e e')]
    refine hs y ?_
    rw [List.take_add_one, hx] at hy
    rcases List.mem_append.1 hy with h | h
    · exact h
    · simp at h; exact absurd h e
theorem lkl_end {C : Cf} {t : St} {w W : World} {rb mb : Nat} {wv : Value} {D : DataW Unit} (hblk : RBlk C t W rb mb wv (.slice none 0 0) ⟨[], 0, []⟩) (hw : W.ownsRow w.heap.size 22 1 wv C.kept.length (ws C.kept)) (hm : OwnF W mb C.kept.length D)
    (hs : ∀ y, y ∈ C.kept → D.atKey (.int .u64 y) (.lit (.int .i64 0)) = .lit (.int .i64 1)) (hlo : w.heap.size ≤ rb ∧ w.heap.size ≤ mb ∧ rb ≠ mb ∧ wv.ownBlock ≠ some rb ∧ wv.ownBlock ≠ some mb) : RAt C t w.heap.size W rb mb wv (.slice none 0 0) ⟨[], 0, []⟩ :=
  ⟨hblk, hw, World.ownsRow_nil _ _ _ _, ⟨D, hm, fun y hy => by rw [hs y hy, if_neg (by simp)]⟩, ⟨hlo.1, hlo.2.1, hm.lt⟩, ⟨hlo.2.2.1, hlo.2.2.2.1, hlo.2.2.2.2, by simp [Value.ownBlock], by simp [Value.ownBlock], fun j hj => by simp [Value.ownBlock]⟩, ⟨Nat.zero_le _, Nat.zero_le _, Nat.zero_le _⟩⟩
def LookPost (C : Cf) (t : St) (w : World) (e : Ending) (w' : World) : Prop := ∃ rb mb wv, e = .returned (.pointer (some ⟨rb, 0, none⟩)) ∧ RAt C t w.heap.size w' rb mb wv (.slice none 0 0) ⟨[], 0, []⟩ ∧ Below w.heap.size w w'
set_option maxRecDepth 100000 in
set_option maxHeartbeats 4000000 in
theorem look_any (C : Cf) (hC : COk C) (t : St) (w : World) (A : Option Addr) (cp : Nat) (hD : Dk w) (h : siteB C.desk t.th C.threads t.ke = true) (hr : Kd.C (Kd.int .u64) w A C.kept.length C.kept) :
    Calls Tryd.prog 13 #[encS C.desk t.th C.threads t.ke t.se, .slice A C.kept.length cp] w (LookPost C t w) := by
  have hmm := @run_makeMap Tryd.prog
  have HRT := fun W hW => right_any C.desk t.th C.threads t.ke t.se W hW
  rw [h] at HRT
  have hd1 : Dk (w.alloc (.cells #[.int .u64 C.desk, .int .i64 t.th, .int .i64 C.threads, .int .i64 t.ke, .int .u64 t.se] 24)) := hD.below ((Below.refl _ _).alloc (Nat.le_refl _) _)
  have H1 := Lib.hid (HRT _ hd1)
  have hr1 := Kd.C_below hr ((Below.refl w.heap.size w).alloc (Nat.le_refl _) (.cells #[.int .u64 C.desk, .int .i64 t.th, .int .i64 C.threads, .int .i64 t.ke, .int .u64 t.se] 24))
  have HRD := Lib.hid hr1
  have HR0 := Lib.hid hr
  have HC := Lib.hid hC
  clear HRT hd1 hD h hr hr1 hC
  unfold encS at *
  go_enter Tryd.func13, Tryd.ntmps13
  go_wp2_with fail
  refine H1.out.mono ?_
  rintro e w1 ⟨rfl, hb1⟩
  have hx := (hb1.block w.heap.size (by simp)).trans (heap_alloc_new w _)
  have hs := hb1.size
  have HRD1 := Lib.hid (Kd.C_below HRD.out hb1)
  simp only [World.size_alloc] at hs
  have HB1 := Lib.hid hb1
  have hlt : w.heap.size < w1.heap.size := by omega
  have HS := Lib.hid hs
  have HX := Lib.hid hx
  have dT : ∀ w' : World, Below w1.heap.size w1 w' → World.cell? w' ⟨w.heap.size, 0, none⟩ = some (.int .u64 C.desk) ∧ World.cell? w' ⟨w.heap.size, 1, none⟩ = some (.int .i64 t.th) ∧ World.cell? w' ⟨w.heap.size, 2, none⟩ = some (.int .i64 C.threads) ∧ World.cell? w' ⟨w.heap.size, 3, none⟩ = some (.int .i64 t.ke) ∧ World.cell? w' ⟨w.heap.size, 4, none⟩ = some (.int .u64 t.se) ∧ Below w1.heap.size w1 w' := fun w' hb =>
    have hx' := (hb.block w.heap.size (by have := HS.out; omega)).trans HX.out
    ⟨cell_of' hx' 0, cell_of' hx' 1, cell_of' hx' 2, cell_of' hx' 3, cell_of' hx' 4, hb⟩
  clear hx hb1 hs
  go_wp2_with fail
  have hkl := HC.out.kept
  go_region_held3 (fun w' => World.cell? w' ⟨w.heap.size, 0, none⟩ = some (.int .u64 C.desk) ∧ World.cell? w' ⟨w.heap.size, 1, none⟩ = some (.int .i64 t.th) ∧ World.cell? w' ⟨w.heap.size, 2, none⟩ = some (.int .i64 C.threads) ∧ World.cell? w' ⟨w.heap.size, 3, none⟩ = some (.int .i64 t.ke) ∧ World.cell? w' ⟨w.heap.size, 4, none⟩ = some (.int .u64 t.se) ∧ Below w1.heap.size w1 w')
    (first
      | exact dT _ (Below.refl _ _).drew
      | (refine dT _ ?_; first | assumption | (go_split_ands; first | exact Below.trans (by assumption) (hbv.mono (Below.size (by assumption))) | exact Below.alloc (by assumption) (Below.size (by assumption)) _ | exact (Below.alloc (by assumption) (Below.size (by assumption)) _).drew)))
    ((go_at_call 23; refine (clone_any A cp C.kept _ ?_ (by omega)).mono ?_; (go_split_ands; exact Kd.C_below HRD1.out (by assumption)); rintro e w' ⟨v, rfl, hown, hbv⟩; obtain ⟨A3, c3, rfl⟩ := own_form hown))
  · have hb0 : Below w.heap.size w w' := ((((Below.refl w.heap.size w).alloc (Nat.le_refl _) _).trans (HB1.out.mono (by simp))).drew).trans (hbv.mono (by show w.heap.size ≤ w1.heap.size; omega))
    have hown0 : w'.ownsRow w.heap.size 22 1 (.slice A3 C.kept.length c3) C.kept.length (ws C.kept) := own_lower hown (by show w.heap.size ≤ w1.heap.size; omega)
    have L0 := lkl_a (t := t) hb0 hown0
    generalize World.alloc (World.alloc _ _) _ = W4 at L0 ⊢
    generalize w'.heap.size + 1 = rb at L0 ⊢
    generalize w'.heap.size = mb at L0 ⊢
    have HL0 := Lib.hid L0
    rename_i hHeld
    clear hHeld hbv hown hb0 hown0 L0 dT hlt
    go_wp2_with fail
    go_loopw [24] (fun i wr => ∃ k : Nat, k ≤ C.kept.length ∧ i = .int .i64 k ∧ LkL C t w wr rb mb (.slice A3 C.kept.length c3) k) (fun i _ => C.kept.length - (intOf i).toNat)
    case atStart => exact ⟨0, Nat.zero_le _, rfl, HL0.out⟩
    case round =>
      obtain ⟨k, hk, rfl, hL⟩ := hrel
      obtain ⟨D, hblk, hw, hm, hsay, l1, l2, l3, l4, l5, hB⟩ := hL
      have HBK := Lib.hid hblk
      have HW := Lib.hid hw
      have HM := Lib.hid hm
      have HSY := Lib.hid hsay
      have HLO := Lib.hid (And.intro l1 (And.intro l2 (And.intro l3 (And.intro l4 l5))))
      have HB := Lib.hid hB
      have hrl := hblk.lt
      have hB0 := hblk
      unfold RBlk at hB0
      have c10 := cell_of' hB0 10
      simp only [List.getElem?_toArray, List.getElem?_cons_succ, List.getElem?_cons_zero] at c10
      clear hblk hw hm hsay l1 l2 l3 l4 l5 hB hB0
      by_cases hlt : k < C.kept.length
      · obtain ⟨x, hx⟩ : ∃ x, C.kept[k]? = some x := ⟨_, List.getElem?_eq_getElem hlt⟩
        have hcx := Kd.C_below HR0.out HB.out
        obtain ⟨ad, rfl, _⟩ := hcx.2.2 (by omega)
        have hcell := ws_cells hcx k (.int .u64 x) (by unfold ws; rw [List.getElem?_map, hx]; rfl)
        have hwx := HC.out.word x (List.mem_of_getElem? hx)
        have HKY := Lib.hid (keyW hwx.1 hwx.2)
        have HXX := Lib.hid hx
        clear hcx hx hwx
        go_wp2_with (at_mapUpdate; refine wpList_mapUpdate_own _ rfl _ _ _ 56 rfl 22 3 keyedW Tryd.underlying56 _ mb k D rfl HM.out (by unfold maxLen; omega) _ _ _ rfl rfl HKY.out _ [] (plainElem_int Tryd.underlying3 (by decide)) ?_; intro w5 hown5 hgrow5)
        go_roundw
        case rel => exact ⟨k + 1, by omega, by go_num, lkl_step HBK.out HW.out HSY.out HLO.out HB.out HM.out HXX.out hown5 hgrow5⟩
        case measure => simp [intOf]; omega
      · have hkk : k = C.kept.length := by omega
        have hall : C.kept.take k = C.kept := by rw [hkk]; exact List.take_length
        have HEND := Lib.hid (lkl_end HBK.out HW.out (by rw [← hkk]; exact HM.out) (by rw [← hall]; exact HSY.out) HLO.out)
        clear hkk hall
        go_wp2_with fail
        go_ret
        exact ⟨rb, mb, _, rfl, HEND.out, HB.out⟩
  · have hb00 : Below w.heap.size w (w1.alloc (.map #[] 0)) := (((Below.refl w.heap.size w).alloc (Nat.le_refl _) _).trans (HB1.out.mono (by simp))).alloc (by omega) _
    have hb0 : Below w.heap.size w w' := (hb00.drew).trans (hbv.mono (by show w.heap.size ≤ (w1.alloc (.map #[] 0)).heap.size; simp; omega))
    have hown0 : w'.ownsRow w.heap.size 22 1 (.slice A3 C.kept.length c3) C.kept.length (ws C.kept) := own_lower hown (by show w.heap.size ≤ (w1.alloc (.map #[] 0)).heap.size; simp; omega)
    have hm0 : w'.heap[w1.heap.size]? = some (.map #[] 0) := (hbv.block w1.heap.size (by show w1.heap.size < (w1.alloc (.map #[] 0)).heap.size; simp)).trans (heap_alloc_new w1 _)
    have L0 := lkl_b (t := t) hb0 hown0 hm0 (by omega)
    clear hb00 hm0
    generalize World.alloc w' _ = W4 at L0 ⊢
    generalize w'.heap.size = rb at L0 ⊢
    generalize w1.heap.size = mb at L0 ⊢
    have HL0 := Lib.hid L0
    rename_i hHeld
    clear hHeld hbv hown hb0 hown0 L0 dT hlt
    go_wp2_with fail
    go_loopw [24] (fun i wr => ∃ k : Nat, k ≤ C.kept.length ∧ i = .int .i64 k ∧ LkL C t w wr rb mb (.slice A3 C.kept.length c3) k) (fun i _ => C.kept.length - (intOf i).toNat)
    case atStart => exact ⟨0, Nat.zero_le _, rfl, HL0.out⟩
    case round =>
      obtain ⟨k, hk, rfl, hL⟩ := hrel
      obtain ⟨D, hblk, hw, hm, hsay, l1, l2, l3, l4, l5, hB⟩ := hL
      have HBK := Lib.hid hblk
      have HW := Lib.hid hw
      have HM := Lib.hid hm
      have HSY := Lib.hid hsay
      have HLO := Lib.hid (And.intro l1 (And.intro l2 (And.intro l3 (And.intro l4 l5))))
      have HB := Lib.hid hB
      have hrl := hblk.lt
      have hB0 := hblk
      unfold RBlk at hB0
      have c10 := cell_of' hB0 10
      simp only [List.getElem?_toArray, List.getElem?_cons_succ, List.getElem?_cons_zero] at c10
      clear hblk hw hm hsay l1 l2 l3 l4 l5 hB hB0
      by_cases hlt : k < C.kept.length
      · obtain ⟨x, hx⟩ : ∃ x, C.kept[k]? = some x := ⟨_, List.getElem?_eq_getElem hlt⟩
        have hcx := Kd.C_below HR0.out HB.out
        obtain ⟨ad, rfl, _⟩ := hcx.2.2 (by omega)
        have hcell := ws_cells hcx k (.int .u64 x) (by unfold ws; rw [List.getElem?_map, hx]; rfl)
        have hwx := HC.out.word x (List.mem_of_getElem? hx)
        have HKY := Lib.hid (keyW hwx.1 hwx.2)
        have HXX := Lib.hid hx
        clear hcx hx hwx
        go_wp2_with (at_mapUpdate; refine wpList_mapUpdate_own _ rfl _ _ _ 56 rfl 22 3 keyedW Tryd.underlying56 _ mb k D rfl HM.out (by unfold maxLen; omega) _ _ _ rfl rfl HKY.out _ [] (plainElem_int Tryd.underlying3 (by decide)) ?_; intro w5 hown5 hgrow5)
        go_roundw
        case rel => exact ⟨k + 1, by omega, by go_num, lkl_step HBK.out HW.out HSY.out HLO.out HB.out HM.out HXX.out hown5 hgrow5⟩
        case measure => simp [intOf]; omega
      · have hkk : k = C.kept.length := by omega
        have hall : C.kept.take k = C.kept := by rw [hkk]; exact List.take_length
        have HEND := Lib.hid (lkl_end HBK.out HW.out (by rw [← hkk]; exact HM.out) (by rw [← hall]; exact HSY.out) HLO.out)
        clear hkk hall
        go_wp2_with fail
        go_ret
        exact ⟨rb, mb, _, rfl, HEND.out, HB.out⟩
end Go.Proofs.YtkoebhflbhpfnaaDoor.Fl
namespace Go.Proofs.YtkoebhflbhpfnaaDoor.Fl
open Go.RowKit Bq Go.Proofs.YtkoebhflbhpfnaaDoorW.PrintWords Go.Proofs.YtkoebhflbhpfnaaDoorW.PrintLast Go.Proofs.YtkoebhflbhpfnaaDoorW.PrintMore
set_option linter.unusedVariables false
set_option linter.unusedSimpArgs false
theorem SOk.take {T N : Nat} {s : SS} (h : SOk T N s) (hT : 1 ≤ T) {g : Int} (h0 : 0 ≤ g) (h1 : g < 18446744073709551616) : SOk T (N + 1) (stake T s g) := by
  obtain ⟨part, oldest, thread, link, log, slot, box, freed⟩ := s
  obtain ⟨hp, ho, hl, ht, hg, hf⟩ := h
  dsimp only at hp ho hl ht hg hf
  have hgr := groups_le' log
  have hcase : part = 1 ∨ part = 2 ∨ part = 3 ∨ part = 4 ∨ part = 5 ∨ part = 6 ∨ part = 7 ∨ part = 8 ∨ part = 9 ∨ part = 10 ∨ part = 11 ∨ part = 12 := by omega
  have hsn : ∀ p, p = 8 ∨ p = 9 → part = p → SOk T (N + 1) (snext ⟨part, oldest, thread, link, log, slot, box, freed⟩) := by
    intro p hpp hpe
    obtain ⟨g9, gs⟩ := hg.2.2 (by omega)
    unfold snext
    by_cases hlt : slot + 1 < 8 * groups log
    · simp only [if_pos hlt]
      exact ⟨by dsimp only; omega, ho, hl, ⟨ht.1, fun h => by dsimp only at h; omega⟩, ⟨hg.1, by dsimp only; omega, fun _ => ⟨g9, by dsimp only; exact hlt⟩⟩, by dsimp only; omega⟩
    · simp only [if_neg hlt]
      exact ⟨by dsimp only; omega, ho, hl, ⟨ht.1, fun h => by dsimp only at h; omega⟩, ⟨hg.1, by dsimp only; omega, fun h => by dsimp only at h; omega⟩, by dsimp only; omega⟩
  rcases hcase with rfl | rfl | rfl | rfl | rfl | rfl | rfl | rfl | rfl | rfl | rfl | rfl
  · show SOk T (N + 1) ⟨if mrk g ≠ 0 ∨ blk g = 0 then 12 else 2, g, thread, link, log, slot, box, freed⟩
    split
    all_goals exact ⟨by dsimp only; omega, ⟨h0, h1⟩, hl, ⟨ht.1, fun h => by dsimp only at h; omega⟩, ⟨hg.1, hg.2.1, fun h => by dsimp only at h; omega⟩, by dsimp only; omega⟩
  · show SOk T (N + 1) ⟨if g = blk oldest then 12 else 3, oldest, thread, link, log, slot, box, freed⟩
    split
    all_goals exact ⟨by dsimp only; omega, ho, hl, ⟨ht.1, fun h => by dsimp only at h; omega⟩, ⟨hg.1, hg.2.1, fun h => by dsimp only at h; omega⟩, by dsimp only; omega⟩
  · show SOk T (N + 1) ⟨if g ≠ oldest then 12 else 4, oldest, 0, link, log, slot, box, freed⟩
    split
    all_goals exact ⟨by dsimp only; omega, ho, hl, ⟨by dsimp only; omega, fun h => by dsimp only at h ⊢; omega⟩, ⟨hg.1, hg.2.1, fun h => by dsimp only at h; omega⟩, by dsimp only; omega⟩
  · show SOk T (N + 1) ⟨if g = blk oldest then 5 else if thread + 1 = T then 6 else 4, oldest, thread + 1, link, log, slot, box, freed⟩
    have := ht.2 rfl
    split
    · exact ⟨by dsimp only; omega, ho, hl, ⟨by dsimp only; omega, fun h => by dsimp only at h; omega⟩, ⟨hg.1, hg.2.1, fun h => by dsimp only at h; omega⟩, by dsimp only; omega⟩
    · split
      all_goals exact ⟨by dsimp only; omega, ho, hl, ⟨by dsimp only; omega, fun h => by dsimp only at h ⊢; omega⟩, ⟨hg.1, hg.2.1, fun h => by dsimp only at h; omega⟩, by dsimp only; omega⟩
  · exact ⟨by show 1 ≤ 12 ∧ 12 ≤ 12; omega, ho, hl, ⟨ht.1, fun h => by revert h; show 12 = 4 → _; omega⟩, ⟨hg.1, hg.2.1, fun h => by revert h; show 12 = 8 ∨ 12 = 9 → _; omega⟩, by show freed ≤ N + 1; omega⟩
  · exact ⟨by show 1 ≤ 7 ∧ 7 ≤ 12; omega, ho, ⟨h0, h1⟩, ⟨ht.1, fun h => by revert h; show 7 = 4 → _; omega⟩, ⟨hg.1, hg.2.1, fun h => by revert h; show 7 = 8 ∨ 7 = 9 → _; omega⟩, by show freed ≤ N + 1; omega⟩
  · show SOk T (N + 1) ⟨if 9 < g then 5 else 8, oldest, thread, link, (min g 10).toNat, 0, box, freed⟩
    split
    · exact ⟨by dsimp only; omega, ho, hl, ⟨ht.1, fun h => by dsimp only at h; omega⟩, ⟨by dsimp only; omega, by dsimp only; omega, fun h => by dsimp only at h; omega⟩, by dsimp only; omega⟩
    · refine ⟨by dsimp only; omega, ho, hl, ⟨ht.1, fun h => by dsimp only at h; omega⟩, ⟨by dsimp only; omega, by dsimp only; omega, fun h => ?_⟩, by dsimp only; omega⟩
      dsimp only
      have h9 : (min g 10).toNat ≤ 9 := by omega
      have : 0 < groups (min g 10).toNat := by unfold groups; rw [if_pos h9]; exact Nat.pow_pos (by omega)
      exact ⟨h9, by omega⟩
  · show SOk T (N + 1) (if hld g then _ else _)
    split
    · have hg2 := hg.2.2 (Or.inl rfl)
      exact ⟨by show 1 ≤ 9 ∧ 9 ≤ 12; omega, ho, hl, ⟨ht.1, fun h => by revert h; show 9 = 4 → _; omega⟩, ⟨hg.1, hg.2.1, fun _ => hg2⟩, by show freed ≤ N + 1; omega⟩
    · exact hsn 8 (Or.inl rfl) rfl
  · exact hsn 9 (Or.inr rfl) rfl
  · exact ⟨by show 1 ≤ 11 ∧ 11 ≤ 12; omega, ho, hl, ⟨ht.1, fun h => by revert h; show 11 = 4 → _; omega⟩, ⟨hg.1, hg.2.1, fun h => by revert h; show 11 = 8 ∨ 11 = 9 → _; omega⟩, by show freed ≤ N + 1; omega⟩
  · exact ⟨by show 1 ≤ 1 ∧ 1 ≤ 12; omega, ho, hl, ⟨ht.1, fun h => by revert h; show 1 = 4 → _; omega⟩, ⟨hg.1, hg.2.1, fun h => by revert h; show 1 = 8 ∨ 1 = 9 → _; omega⟩, by show freed + 1 ≤ N + 1; omega⟩
  · exact ⟨hp, ho, hl, ⟨ht.1, fun h => by revert h; show 12 = 4 → _; omega⟩, ⟨hg.1, hg.2.1, fun h => by revert h; show 12 = 8 ∨ 12 = 9 → _; omega⟩, by show freed ≤ N + 1; omega⟩
theorem stake_any (C : Cf) (t : St) (w : World) (sb N : Nat) (s : SS) (g : Int) (hS : SwAt C t w sb s) (hok : SOk C.threads N s) (h64 : C.threads ≤ 64) (hN : N < 1000000) (h0 : 0 ≤ g) (h1 : g < 18446744073709551616) :
    Calls Tryd.prog 18 #[.pointer (some ⟨sb, 0, none⟩), .int .u64 g] w fun e w' => e = .returned (.tuple #[]) ∧ SwAt C t w' sb (stake C.threads s g) ∧ Fr (only sb) w w' := by
  obtain ⟨part, oldest, thread, link, log, slot, box, freed⟩ := s
  obtain ⟨hp, ho, hl, ht, hg, hf⟩ := hok
  dsimp only at hp ho hl ht hg hf
  have hcase : part = 1 ∨ part = 2 ∨ part = 3 ∨ part = 4 ∨ part = 5 ∨ part = 6 ∨ part = 7 ∨ part = 8 ∨ part = 9 ∨ part = 10 ∨ part = 11 ∨ part = 12 := by omega
  rcases hcase with rfl | rfl | rfl | rfl | rfl | rfl | rfl | rfl | rfl | rfl | rfl | rfl
  · exact take1 C t w sb oldest thread link log slot box freed g hS h0 h1
  · exact take2 C t w sb oldest thread link log slot box freed g hS h0 h1
  · exact take3 C t w sb oldest thread link log slot box freed g hS h0 h1
  · exact take4 C t w sb oldest thread link log slot box freed g hS h0 h1 (by have := ht.2 rfl; omega)
  · exact take5 C t w sb oldest thread link log slot box freed g hS h0 h1
  · exact take6 C t w sb oldest thread link log slot box freed g hS h0 h1
  · show Calls _ _ _ _ fun e w' => e = _ ∧ SwAt C t w' sb ⟨if 9 < g then 5 else 8, oldest, thread, link, (min g 10).toNat, 0, box, freed⟩ ∧ _
    by_cases h9 : 9 < g
    · rw [if_pos h9, show (min g 10).toNat = 10 by omega]
      exact take7a C t w sb oldest thread link log slot box freed g hS h0 h1 h9
    · rw [if_neg h9]
      exact take7b C t w sb oldest thread link log slot box freed g hS h0 h1 (min g 10).toNat (by omega) (by omega)
  · have hg2 := hg.2.2 (Or.inl rfl)
    show Calls _ _ _ _ fun e w' => e = _ ∧ SwAt C t w' sb (if hld g then _ else _) ∧ _
    cases hh : hld g with
    | true => exact take8y C t w sb oldest thread link log slot box freed g hS h0 h1 hh
    | false => exact take8n C t w sb oldest thread link log slot box freed g hS h0 h1 hh hg2.1 (by have := groups_le' log; omega)
  · have hg2 := hg.2.2 (Or.inr rfl)
    exact take9 C t w sb oldest thread link log slot box freed g hS h0 h1 hg2.1 (by have := groups_le' log; omega)
  · exact take10 C t w sb oldest thread link log slot box freed g hS h0 h1
  · exact take11 C t w sb oldest thread link log slot box freed g hS h0 h1 (by omega)
  · exact take12 C t w sb oldest thread link log slot box freed g hS h0 h1
/-- Who flushes lies at block fb; all that is its own lies from block B on. -/
structure FI (C : Cf) (t : St) (B N : Nat) (w : World) (fb : Nat) (m : MS) (rb mb sb : Nat) (wv rv : Value) : Prop where
  blk : w.heap[fb]? = some (.cells #[.bool true, .bool C.swept, .pointer (some ⟨rb, 0, none⟩), .pointer (some ⟨sb, 0, none⟩)] 50 (0, 0))
  r : RAt C t B w rb mb wv rv m.r
  s : SwAt C t w sb m.s
  ok : SOk C.threads N m.s
  lo : B ≤ fb ∧ B ≤ sb
def FAt (C : Cf) (t : St) (B N : Nat) (w : World) (fb : Nat) (m : MS) : Prop := ∃ rb mb sb wv rv, FI C t B N w fb m rb mb sb wv rv
section
variable {C : Cf} {t : St} {B N : Nat} {w : World} {fb : Nat} {m : MS} {rb mb sb : Nat} {wv rv : Value}
theorem FI.lt (h : FI C t B N w fb m rb mb sb wv rv) : fb < w.heap.size := (Array.getElem?_eq_some_iff.1 h.blk).1
theorem FI.below (h : FI C t B N w fb m rb mb sb wv rv) {w' : World} (hb : Below w.heap.size w w') : FI C t B N w' fb m rb mb sb wv rv :=
  ⟨(hb.block fb h.lt).trans h.blk, h.r.below hb, h.s.below hb, h.ok, h.lo⟩
theorem FAt.below (h : FAt C t B N w fb m) {w' : World} (hb : Below w.heap.size w w') : FAt C t B N w' fb m := by
  obtain ⟨rb, mb, sb, wv, rv, h⟩ := h
  exact ⟨rb, mb, sb, wv, rv, h.below hb⟩
theorem own_not_typed {W : World} {B : Nat} {v : Value} {n : Nat} {xs : List Value} {b : Nat} {cs : Array Value} {T : TypeId} (h : W.ownsRow B 22 1 v n xs) (hb : W.heap[b]? = some (.cells cs T (0, 0))) (hT : 22 ≠ T) : v.ownBlock ≠ some b := by
  intro e
  rcases h.2 with ⟨e1, _⟩ | ⟨g, cap, cur, e1, _, hg, _⟩
  · rw [e1] at e; cases e
  · rw [e1] at e
    simp [Value.ownBlock] at e
    subst e
    rw [hg] at hb
    injection hb with hb
    injection hb with _ hb
    exact hT hb
theorem typed_ne {W : World} {b b' : Nat} {cs cs' : Array Value} {T T' : TypeId} (h : W.heap[b]? = some (.cells cs T (0, 0))) (h' : W.heap[b']? = some (.cells cs' T' (0, 0))) (hT : T ≠ T') : b ≠ b' := by
  rintro rfl
  rw [h] at h'
  injection h' with h'
  injection h' with _ h'
  exact hT h'
theorem map_ne {W : World} {b mb n : Nat} {cs : Array Value} {T : TypeId} {D : DataW Unit} (h : W.heap[b]? = some (.cells cs T (0, 0))) (hm : OwnF W mb n D) : b ≠ mb := by
  rintro rfl
  obtain ⟨es, ck, hb, _⟩ := hm
  rw [hb] at h
  cases h
theorem FI.apart (h : FI C t B N w fb m rb mb sb wv rv) : fb ≠ rb ∧ fb ≠ mb ∧ fb ≠ sb ∧ sb ≠ rb ∧ sb ≠ mb ∧ wv.ownBlock ≠ some fb ∧ rv.ownBlock ≠ some fb ∧ wv.ownBlock ≠ some sb ∧ rv.ownBlock ≠ some sb := by
  obtain ⟨D, hD, _⟩ := h.r.map
  have hr := h.r.blk
  have hs := h.s
  unfold RBlk at hr
  unfold SwAt at hs
  exact ⟨typed_ne h.blk hr (by decide), map_ne h.blk hD, typed_ne h.blk hs (by decide), typed_ne hs hr (by decide), map_ne hs hD, own_not_typed h.r.wait h.blk (by decide), own_not_typed h.r.row h.blk (by decide), own_not_typed h.r.wait hs (by decide), own_not_typed h.r.row hs (by decide)⟩
theorem FI.took (h : FI C t B N w fb m rb mb sb wv rv) {w' : World} {rv' : Value} {r' : RS} (hr : RAt C t B w' rb mb wv rv' r') (hf : Fr (RSet rb mb rv) w w') : FI C t B (N + 1) w' fb { m with r := r' } rb mb sb wv rv' := by
  obtain ⟨a1, a2, a3, a4, a5, a6, a7, a8, a9⟩ := h.apart
  refine ⟨(hf.block fb h.lt ?_).trans h.blk, hr, (hf.block sb h.s.lt ?_).trans h.s, ⟨h.ok.part, h.ok.old, h.ok.link, h.ok.thr, h.ok.lg, by show m.s.freed ≤ N + 1; have := h.ok.fr; omega⟩, h.lo⟩
  · rintro (e | e | e)
    · exact a1 e
    · exact a2 e
    · exact a7 e
  · rintro (e | e | e)
    · exact a4 e
    · exact a5 e
    · exact a9 e
theorem FI.swept (h : FI C t B N w fb m rb mb sb wv rv) {w' : World} {s' : SS} (hs : SwAt C t w' sb s') (hok : SOk C.threads (N + 1) s') (hf : Fr (only sb) w w') : FI C t B (N + 1) w' fb { m with s := s' } rb mb sb wv rv := by
  obtain ⟨a1, a2, a3, a4, a5, a6, a7, a8, a9⟩ := h.apart
  obtain ⟨D, hD, hS⟩ := h.r.map
  refine ⟨(hf.block fb h.lt (fun e => a3 e)).trans h.blk, ⟨(hf.block rb h.r.blk.lt (fun e => a4 e.symm)).trans h.r.blk, own_fr h.r.wait hf (fun k hk e => a8 (by rw [hk]; exact congrArg some e)), own_fr h.r.row hf (fun k hk e => a9 (by rw [hk]; exact congrArg some e)), ⟨D, map_fr hD hf (fun e => a5 e.symm), hS⟩, ⟨h.r.lo.1, h.r.lo.2.1, Nat.lt_of_lt_of_le h.r.lo.2.2 hf.size⟩, h.r.ne, h.r.le⟩, hs, hok, h.lo⟩
end
set_option maxRecDepth 100000 in
set_option maxHeartbeats 2000000 in
theorem fact_any (C : Cf) (hC : COk C) (t : St) (w : World) (B N fb : Nat) (m : MS) (hF : FAt C t B N w fb m) :
    Calls Tryd.prog 7 #[.pointer (some ⟨fb, 0, none⟩)] w fun e w' => e = .returned (encO (fact C m)) ∧ Below w.heap.size w w' := by
  obtain ⟨rb, mb, sb, wv, rv, hI⟩ := hF
  have hlt := hI.lt
  have c0 := cell_of' hI.blk 0
  have c2 := cell_of' hI.blk 2
  simp only [List.getElem?_toArray, List.getElem?_cons_succ, List.getElem?_cons_zero] at c0 c2
  have HI := Lib.hid hI
  have HC := Lib.hid hC
  have HA := Lib.hid (fun W hW => ract_any C hC t W B rb mb wv rv m.r hW)
  have HS := Lib.hid (fun W hW => sact_any C t W sb N m.s hW hI.ok hC.th.2)
  clear hI hC
  unfold encO encA at HA HS
  unfold fact encO encA
  cases hra : ract C.desk C.threads C.kept m.r with
  | some a =>
    rw [hra] at HA
    have HA' := Lib.hid HA.out
    clear HA hra HS
    dsimp only
    go_enter Tryd.func7, Tryd.ntmps7
    go_wp2_with fail
    refine (HA'.out _ (HI.out.r.below ((Below.refl _ _).alloc (Nat.le_refl _) _))).mono ?_
    rintro e w1 ⟨rfl, hb1⟩
    have hx1 := (hb1.block w.heap.size (by simp)).trans (heap_alloc_new w _)
    have hs1 := hb1.size
    simp only [World.size_alloc] at hs1
    have hl1 : w.heap.size < w1.heap.size := by omega
    have hlf : fb < w1.heap.size := by omega
    have HB1 := Lib.hid ((((Below.refl w.heap.size w).alloc (Nat.le_refl _) _)).trans (hb1.mono (by simp)))
    have HX1 := Lib.hid hx1
    have e0 := cell_of' hx1 0
    have e1 := cell_of' hx1 1
    have e2 := cell_of' hx1 2
    have e3 := cell_of' hx1 3
    have e4 := cell_of' hx1 4
    have z0 := frozen_of' hx1 0
    have z1 := frozen_of' hx1 1
    have z2 := frozen_of' hx1 2
    have z3 := frozen_of' hx1 3
    have z4 := frozen_of' hx1 4
    simp only [List.getElem?_toArray, List.getElem?_cons_succ, List.getElem?_cons_zero] at e0 e1 e2 e3 e4
    have HI1 := Lib.hid (HI.out.below HB1.out)
    have d1 := cell_of' HI1.out.blk 1
    have d3 := cell_of' HI1.out.blk 3
    simp only [List.getElem?_toArray, List.getElem?_cons_succ, List.getElem?_cons_zero] at d1 d3
    clear hx1 hb1
    clear d1 d3
    go_wp2_with fail
    exact ⟨rfl, _, ret_act rfl ((Below.heap_alloc _ _ _ (by simpa [World.setCell] using hl1)).trans (set5 HX1.out _ _ _ _ _)) rfl rfl, rfl, (five_below HB1.out (Nat.le_refl _) _ _ _ _ _).alloc (by simp [World.setCell]; omega) _⟩
  | none =>
    rw [hra] at HA
    have HA' := Lib.hid HA.out
    clear HA hra
    dsimp only
    cases hsw : C.swept with
    | true =>
      go_enter Tryd.func7, Tryd.ntmps7
      go_wp2_with fail
      refine (HA'.out _ (HI.out.r.below ((Below.refl _ _).alloc (Nat.le_refl _) _))).mono ?_
      rintro e w1 ⟨rfl, hb1⟩
      have hx1 := (hb1.block w.heap.size (by simp)).trans (heap_alloc_new w _)
      have hs1 := hb1.size
      simp only [World.size_alloc] at hs1
      have hl1 : w.heap.size < w1.heap.size := by omega
      have hlf : fb < w1.heap.size := by omega
      have HB1 := Lib.hid ((((Below.refl w.heap.size w).alloc (Nat.le_refl _) _)).trans (hb1.mono (by simp)))
      have HX1 := Lib.hid hx1
      have e0 := cell_of' hx1 0
      have e1 := cell_of' hx1 1
      have e2 := cell_of' hx1 2
      have e3 := cell_of' hx1 3
      have e4 := cell_of' hx1 4
      have z0 := frozen_of' hx1 0
      have z1 := frozen_of' hx1 1
      have z2 := frozen_of' hx1 2
      have z3 := frozen_of' hx1 3
      have z4 := frozen_of' hx1 4
      simp only [List.getElem?_toArray, List.getElem?_cons_succ, List.getElem?_cons_zero] at e0 e1 e2 e3 e4
      have HI1 := Lib.hid (HI.out.below HB1.out)
      have d1 := cell_of' HI1.out.blk 1
      have d3 := cell_of' HI1.out.blk 3
      simp only [List.getElem?_toArray, List.getElem?_cons_succ, List.getElem?_cons_zero] at d1 d3
      clear hx1 hb1
      rw [hsw] at d1
      clear d3 hsw
      go_wp2_with fail
      exact ⟨rfl, _, ret_act rfl ((Below.heap_alloc _ _ _ (by simpa [World.setCell] using hl1)).trans (set5 HX1.out _ _ _ _ _)) rfl rfl, rfl, (five_below HB1.out (Nat.le_refl _) _ _ _ _ _).alloc (by simp [World.setCell]; omega) _⟩
    | false =>
      go_enter Tryd.func7, Tryd.ntmps7
      go_wp2_with fail
      refine (HA'.out _ (HI.out.r.below ((Below.refl _ _).alloc (Nat.le_refl _) _))).mono ?_
      rintro e w1 ⟨rfl, hb1⟩
      have hx1 := (hb1.block w.heap.size (by simp)).trans (heap_alloc_new w _)
      have hs1 := hb1.size
      simp only [World.size_alloc] at hs1
      have hl1 : w.heap.size < w1.heap.size := by omega
      have hlf : fb < w1.heap.size := by omega
      have HB1 := Lib.hid ((((Below.refl w.heap.size w).alloc (Nat.le_refl _) _)).trans (hb1.mono (by simp)))
      have HX1 := Lib.hid hx1
      have e0 := cell_of' hx1 0
      have e1 := cell_of' hx1 1
      have e2 := cell_of' hx1 2
      have e3 := cell_of' hx1 3
      have e4 := cell_of' hx1 4
      have z0 := frozen_of' hx1 0
      have z1 := frozen_of' hx1 1
      have z2 := frozen_of' hx1 2
      have z3 := frozen_of' hx1 3
      have z4 := frozen_of' hx1 4
      simp only [List.getElem?_toArray, List.getElem?_cons_succ, List.getElem?_cons_zero] at e0 e1 e2 e3 e4
      have HI1 := Lib.hid (HI.out.below HB1.out)
      have d1 := cell_of' HI1.out.blk 1
      have d3 := cell_of' HI1.out.blk 3
      simp only [List.getElem?_toArray, List.getElem?_cons_succ, List.getElem?_cons_zero] at d1 d3
      clear hx1 hb1
      rw [hsw] at d1
      clear hsw
      go_wp2_with fail
      generalize hW2 : World.alloc w1 _ = W2
      have hb2 : Below w1.heap.size w1 W2 := by rw [← hW2]; exact (Below.refl _ _).alloc (Nat.le_refl _) _
      have HB2 := Lib.hid hb2
      clear hb2 hW2 e0 e1 e2 e3 e4 z0 z1 z2 z3 z4
      refine (HS.out _ (HI1.out.s.below HB2.out)).mono ?_
      rintro e w3 ⟨rfl, hb3⟩
      have HB3 := Lib.hid (HB1.out.trans ((HB2.out.mono (by omega)).trans (hb3.mono (by have := HB2.out.size; omega))))
      have hx3 := (hb3.block w.heap.size (by have := HB2.out.size; omega)).trans ((HB2.out.block w.heap.size hl1).trans HX1.out)
      have HX3 := Lib.hid hx3
      have e0 := cell_of' hx3 0
      have e1 := cell_of' hx3 1
      have e2 := cell_of' hx3 2
      have e3 := cell_of' hx3 3
      have e4 := cell_of' hx3 4
      have z0 := frozen_of' hx3 0
      have z1 := frozen_of' hx3 1
      have z2 := frozen_of' hx3 2
      have z3 := frozen_of' hx3 3
      have z4 := frozen_of' hx3 4
      simp only [List.getElem?_toArray, List.getElem?_cons_succ, List.getElem?_cons_zero] at e0 e1 e2 e3 e4
      clear hx3 hb3
      go_wp2_with fail
      exact ⟨rfl, _, ret_act rfl (set5 HX3.out _ _ _ _ _) rfl rfl, rfl, five_below HB3.out (Nat.le_refl _) _ _ _ _ _⟩
end Go.Proofs.YtkoebhflbhpfnaaDoor.Fl
namespace Go.Proofs.YtkoebhflbhpfnaaDoor.Fl
open Go.RowKit Bq Go.Proofs.YtkoebhflbhpfnaaDoorW.PrintWords Go.Proofs.YtkoebhflbhpfnaaDoorW.PrintLast Go.Proofs.YtkoebhflbhpfnaaDoorW.PrintMore
set_option linter.unusedVariables false
set_option linter.unusedSimpArgs false
theorem FI.more {C : Cf} {t : St} {B N : Nat} {w : World} {fb : Nat} {m : MS} {rb mb sb : Nat} {wv rv : Value} (h : FI C t B N w fb m rb mb sb wv rv) : FI C t B (N + 1) w fb m rb mb sb wv rv :=
  ⟨h.blk, h.r, h.s, ⟨h.ok.part, h.ok.old, h.ok.link, h.ok.thr, h.ok.lg, by have := h.ok.fr; omega⟩, h.lo⟩
/-- Acts that lie somewhere lie there as they lay. -/
def KT (w w' : World) : Prop := ∀ (k : Nat) (cs : Array Value), w.heap[k]? = some (.cells cs 31 (0, 0)) → w'.heap[k]? = some (.cells cs 31 (0, 0))
theorem KT.trans {a b c : World} (h : KT a b) (g : KT b c) : KT a c := fun k cs hk => g k cs (h k cs hk)
theorem KT.of_below {w w' : World} (h : Below w.heap.size w w') : KT w w' := fun k cs hk => (h.block k (Array.getElem?_eq_some_iff.1 hk).1).trans hk
theorem KT.of_fr {S : Nat → Prop} {w w' : World} (h : Fr S w w') (hs : ∀ k cs, w.heap[k]? = some (.cells cs 31 (0, 0)) → ¬ S k) : KT w w' := fun k cs hk => (h.block k (Array.getElem?_eq_some_iff.1 hk).1 (hs k cs hk)).trans hk
theorem FI.kt_r {C : Cf} {t : St} {B N : Nat} {w w' : World} {fb : Nat} {m : MS} {rb mb sb : Nat} {wv rv : Value} (h : FI C t B N w fb m rb mb sb wv rv) (hf : Fr (RSet rb mb rv) w w') : KT w w' := KT.of_fr hf (fun k cs hk e => by
  obtain ⟨D, hD, _⟩ := h.r.map
  have hr := h.r.blk
  unfold RBlk at hr
  rcases e with e | e | e
  · exact typed_ne hk hr (by decide) e
  · exact map_ne hk hD e
  · exact own_not_typed h.r.row hk (by decide) e)
theorem FI.kt_s {C : Cf} {t : St} {B N : Nat} {w w' : World} {fb : Nat} {m : MS} {rb mb sb : Nat} {wv rv : Value} (h : FI C t B N w fb m rb mb sb wv rv) (hf : Fr (only sb) w w') : KT w w' := KT.of_fr hf (fun k cs hk e => by
  have hs := h.s
  unfold SwAt at hs
  exact typed_ne hk hs (by decide) e)
def FtPost (C : Cf) (t : St) (B N : Nat) (w : World) (fb : Nat) (m' : MS) (e : Ending) (w' : World) : Prop := e = .returned (.tuple #[]) ∧ FAt C t B N w' fb m' ∧ Below B w w' ∧ KT w w'
theorem fact_v (C : Cf) (hC : COk C) (t : St) (w : World) (B N fb : Nat) (m : MS) (hF : FAt C t B N w fb m) (x : Option Ac) (hx : fact C m = x) :
    Calls Tryd.prog 7 #[.pointer (some ⟨fb, 0, none⟩)] w fun e w' => e = .returned (.tuple #[.agg #[.int .i64 (x.getD Ac.zero).k, .int .u64 (x.getD Ac.zero).b, .int .i64 (x.getD Ac.zero).c, .int .u64 (x.getD Ac.zero).o, .int .u64 (x.getD Ac.zero).n], .bool x.isSome]) ∧ Below w.heap.size w w' := by
  have := fact_any C hC t w B N fb m hF
  rw [hx] at this
  exact this
theorem ract_v (C : Cf) (hC : COk C) (t : St) (w : World) (B rb mb : Nat) (wv rv : Value) (r : RS) (hR : RAt C t B w rb mb wv rv r) (x : Option Ac) (hx : ract C.desk C.threads C.kept r = x) :
    Calls Tryd.prog 15 #[.pointer (some ⟨rb, 0, none⟩)] w fun e w' => e = .returned (.tuple #[.agg #[.int .i64 (x.getD Ac.zero).k, .int .u64 (x.getD Ac.zero).b, .int .i64 (x.getD Ac.zero).c, .int .u64 (x.getD Ac.zero).o, .int .u64 (x.getD Ac.zero).n], .bool x.isSome]) ∧ Below w.heap.size w w' := by
  have := ract_any C hC t w B rb mb wv rv r hR
  rw [hx] at this
  exact this
set_option maxRecDepth 100000 in
set_option maxHeartbeats 1000000 in
theorem ftake_none_any (C : Cf) (hC : COk C) (t : St) (w : World) (B N fb : Nat) (m : MS) (g : Int) (hF : FAt C t B N w fb m) (hx : fact C m = none) :
    Calls Tryd.prog 8 #[.pointer (some ⟨fb, 0, none⟩), .int .u64 g] w (FtPost C t B (N + 1) w fb m) := by
  obtain ⟨rb, mb, sb, wv, rv, hI⟩ := id hF
  have HA := Lib.hid (fact_v C hC t w B N fb m hF none hx)
  have HI := Lib.hid hI
  clear hI hF hx hC
  go_enter Tryd.func8, Tryd.ntmps8
  go_wp2_with fail
  refine HA.out.mono ?_
  rintro e w1 ⟨rfl, hb1⟩
  have HB1 := Lib.hid hb1
  clear hb1
  go_wp2_with fail
  refine bodyPost_ret (results_none rfl _ _ _) rfl ?_
  have hb2 := HB1.out.alloc HB1.out.size (.cells #[.int .i64 Ac.zero.k, .int .u64 Ac.zero.b, .int .i64 Ac.zero.c, .int .u64 Ac.zero.o, .int .u64 Ac.zero.n] 31)
  exact ⟨rfl, ⟨rb, mb, sb, wv, rv, (HI.out.below hb2).more⟩, hb2.mono (by have := HI.out.lt; have := HI.out.lo; omega), KT.of_below hb2⟩
set_option maxRecDepth 100000 in
set_option maxHeartbeats 1000000 in
theorem ftake_looks (C : Cf) (hC : COk C) (t : St) (w : World) (B N fb : Nat) (m : MS) (g : Int) (hg : 0 ≤ g ∧ g < 18446744073709551616) (hF : FAt C t B N w fb m) (x : Option Ac) (hx : fact C m = x) (hs : x.isSome = true) (a : Ac) (hr : ract C.desk C.threads C.kept m.r = some a) :
    Calls Tryd.prog 8 #[.pointer (some ⟨fb, 0, none⟩), .int .u64 g] w (FtPost C t B (N + 1) w fb { m with r := rtake C.threads C.kept m.r g }) := by
  obtain ⟨rb, mb, sb, wv, rv, hI⟩ := id hF
  have HA := fact_v C hC t w B N fb m hF x hx
  rw [hs] at HA
  generalize x.getD Ac.zero = ac at HA
  have HA' := Lib.hid HA
  have HR := Lib.hid (fun W hW => ract_v C hC t W B rb mb wv rv m.r hW _ hr)
  have HT := Lib.hid (fun W hW => rtake_any C hC t W B rb mb wv rv m.r g hg hW a hr)
  have HI := Lib.hid hI
  clear hI hF hx hC hs hr HA hg
  go_enter Tryd.func8, Tryd.ntmps8
  go_wp2_with fail
  refine HA'.out.mono ?_
  rintro e w1 ⟨rfl, hb1⟩
  have HI1 := Lib.hid (HI.out.below hb1)
  have HB1 := Lib.hid hb1
  have hl1 := HI1.out.lt
  have d2 := cell_of' HI1.out.blk 2
  simp only [List.getElem?_toArray, List.getElem?_cons_succ, List.getElem?_cons_zero] at d2
  clear hb1
  go_wp2_with fail
  generalize hW2 : World.alloc w1 _ = W2
  have hb2 : Below w1.heap.size w1 W2 := by rw [← hW2]; exact (Below.refl _ _).alloc (Nat.le_refl _) _
  have HB2 := Lib.hid (HB1.out.trans (hb2.mono HB1.out.size))
  have HI2 := Lib.hid (HI1.out.below hb2)
  clear hb2 hW2 d2 hl1
  refine (HR.out _ HI2.out.r).mono ?_
  rintro e w3 ⟨rfl, hb3⟩
  have HI3 := Lib.hid (HI2.out.below hb3)
  have HB3 := Lib.hid (HB2.out.trans (hb3.mono HB2.out.size))
  have hl3 := HI3.out.lt
  have d2 := cell_of' HI3.out.blk 2
  simp only [List.getElem?_toArray, List.getElem?_cons_succ, List.getElem?_cons_zero] at d2
  clear hb3
  go_wp2_with fail
  generalize hW4 : World.alloc w3 _ = W4
  have hb4 : Below w3.heap.size w3 W4 := by rw [← hW4]; exact (Below.refl _ _).alloc (Nat.le_refl _) _
  have HB4 := Lib.hid (HB3.out.trans (hb4.mono HB3.out.size))
  have HI4 := Lib.hid (HI3.out.below hb4)
  clear hb4 hW4 d2 hl3
  refine (HT.out _ HI4.out.r).mono ?_
  rintro e w5 ⟨rfl, rv', hR5, hF5, hN5⟩
  have HR5 := Lib.hid hR5
  have HF5 := Lib.hid hF5
  clear hR5 hF5 hN5
  go_wp2_with fail
  go_end0
  have hlo := HI4.out.lo
  have hlr := HI4.out.r.lo
  have hlt := HI.out.lt
  have hl4 := HI4.out.lt
  refine ⟨rfl, ⟨rb, mb, sb, wv, rv', HI4.out.took HR5.out HF5.out⟩, (HB4.out.mono (by omega)).trans (HF5.out.below (fun k hk => ?_) (by omega)), (KT.of_below HB4.out).trans (HI4.out.kt_r HF5.out)⟩
  rcases hk with e | e | e
  · omega
  · omega
  · exact (HI4.out.r.row.lt _ e).1
set_option maxRecDepth 100000 in
set_option maxHeartbeats 1000000 in
theorem ftake_sweeps (C : Cf) (hC : COk C) (t : St) (w : World) (B N fb : Nat) (m : MS) (g : Int) (hg : 0 ≤ g ∧ g < 18446744073709551616) (hN : N < 1000000) (hF : FAt C t B N w fb m) (x : Option Ac) (hx : fact C m = x) (hs : x.isSome = true) (hr : ract C.desk C.threads C.kept m.r = none) :
    Calls Tryd.prog 8 #[.pointer (some ⟨fb, 0, none⟩), .int .u64 g] w (FtPost C t B (N + 1) w fb { m with s := stake C.threads m.s g }) := by
  obtain ⟨rb, mb, sb, wv, rv, hI⟩ := id hF
  have HA := fact_v C hC t w B N fb m hF x hx
  rw [hs] at HA
  generalize x.getD Ac.zero = ac at HA
  have HA' := Lib.hid HA
  have HR := Lib.hid (fun W hW => ract_v C hC t W B rb mb wv rv m.r hW _ hr)
  have HT := Lib.hid (fun W hW => stake_any C t W sb N m.s g hW hI.ok hC.th.2 hN hg.1 hg.2)
  have HOK := Lib.hid (hI.ok.take hC.th.1 hg.1 hg.2)
  have HI := Lib.hid hI
  clear hI hF hx hC hs hr HA hg
  go_enter Tryd.func8, Tryd.ntmps8
  go_wp2_with fail
  refine HA'.out.mono ?_
  rintro e w1 ⟨rfl, hb1⟩
  have HI1 := Lib.hid (HI.out.below hb1)
  have HB1 := Lib.hid hb1
  have hl1 := HI1.out.lt
  have d2 := cell_of' HI1.out.blk 2
  simp only [List.getElem?_toArray, List.getElem?_cons_succ, List.getElem?_cons_zero] at d2
  clear hb1
  go_wp2_with fail
  generalize hW2 : World.alloc w1 _ = W2
  have hb2 : Below w1.heap.size w1 W2 := by rw [← hW2]; exact (Below.refl _ _).alloc (Nat.le_refl _) _
  have HB2 := Lib.hid (HB1.out.trans (hb2.mono HB1.out.size))
  have HI2 := Lib.hid (HI1.out.below hb2)
  clear hb2 hW2 d2 hl1
  refine (HR.out _ HI2.out.r).mono ?_
  rintro e w3 ⟨rfl, hb3⟩
  have HI3 := Lib.hid (HI2.out.below hb3)
  have HB3 := Lib.hid (HB2.out.trans (hb3.mono HB2.out.size))
  have hl3 := HI3.out.lt
  have d3 := cell_of' HI3.out.blk 3
  simp only [List.getElem?_toArray, List.getElem?_cons_succ, List.getElem?_cons_zero] at d3
  clear hb3
  go_wp2_with fail
  generalize hW4 : World.alloc w3 _ = W4
  have hb4 : Below w3.heap.size w3 W4 := by rw [← hW4]; exact (Below.refl _ _).alloc (Nat.le_refl _) _
  have HB4 := Lib.hid (HB3.out.trans (hb4.mono HB3.out.size))
  have HI4 := Lib.hid (HI3.out.below hb4)
  clear hb4 hW4 d3 hl3
  refine (HT.out _ HI4.out.s).mono ?_
  rintro e w5 ⟨rfl, hS5, hF5⟩
  have HS5 := Lib.hid hS5
  have HF5 := Lib.hid hF5
  clear hS5 hF5
  go_wp2_with fail
  go_end0
  have hlo := HI4.out.lo
  have hlt := HI.out.lt
  have hl4 := HI4.out.lt
  exact ⟨rfl, ⟨rb, mb, sb, wv, rv, HI4.out.swept HS5.out HOK.out HF5.out⟩, (HB4.out.mono (by omega)).trans (HF5.out.below (fun k hk => by rw [show k = sb from hk]; exact hlo.2) (by omega)), (KT.of_below HB4.out).trans (HI4.out.kt_s HF5.out)⟩
theorem ftake_any (C : Cf) (hC : COk C) (t : St) (w : World) (B N fb : Nat) (m : MS) (g : Int) (hg : 0 ≤ g ∧ g < 18446744073709551616) (hN : N < 1000000) (hF : FAt C t B N w fb m) :
    Calls Tryd.prog 8 #[.pointer (some ⟨fb, 0, none⟩), .int .u64 g] w (FtPost C t B (N + 1) w fb (ftake C m g)) := by
  unfold ftake
  cases hx : fact C m with
  | none =>
    rw [if_pos rfl]
    exact ftake_none_any C hC t w B N fb m g hF hx
  | some a =>
    rw [if_neg (by simp)]
    cases hr : ract C.desk C.threads C.kept m.r with
    | none =>
      rw [if_pos rfl]
      exact ftake_sweeps C hC t w B N fb m g hg hN hF _ hx rfl hr
    | some b =>
      rw [if_neg (by simp)]
      exact ftake_looks C hC t w B N fb m g hg hF _ hx rfl b hr
set_option maxRecDepth 100000 in
set_option maxHeartbeats 1000000 in
theorem fresult_more (C : Cf) (hC : COk C) (t : St) (w : World) (B N fb : Nat) (m : MS) (hF : FAt C t B N w fb m) (x : Option Ac) (hx : fact C m = x) (hs : x.isSome = true) :
    Calls Tryd.prog 9 #[.pointer (some ⟨fb, 0, none⟩)] w fun e w' => e = .returned (.tuple #[.slice none 0 0, .bool false]) ∧ Below w.heap.size w w' := by
  obtain ⟨rb, mb, sb, wv, rv, hI⟩ := id hF
  have HA := fact_v C hC t w B N fb m hF x hx
  rw [hs] at HA
  generalize x.getD Ac.zero = ac at HA
  have HA' := Lib.hid HA
  have c0 := cell_of' hI.blk 0
  simp only [List.getElem?_toArray, List.getElem?_cons_succ, List.getElem?_cons_zero] at c0
  clear hI hF hx hC hs HA
  go_enter Tryd.func9, Tryd.ntmps9
  go_wp2_with fail
  refine HA'.out.mono ?_
  rintro e w1 ⟨rfl, hb1⟩
  have HB1 := Lib.hid hb1
  clear hb1
  go_wp2_with fail
  go_ret2
  exact ⟨rfl, HB1.out.alloc HB1.out.size _⟩
set_option maxRecDepth 100000 in
set_option maxHeartbeats 1000000 in
theorem fresult_done (C : Cf) (hC : COk C) (t : St) (w : World) (B N fb : Nat) (m : MS) (hF : FAt C t B N w fb m) (hx : fact C m = none) :
    Calls Tryd.prog 9 #[.pointer (some ⟨fb, 0, none⟩)] w (RowPost w m.r.rest) := by
  obtain ⟨rb, mb, sb, wv, rv, hI⟩ := id hF
  have hr : ract C.desk C.threads C.kept m.r = none := by
    unfold fact at hx
    cases h : ract C.desk C.threads C.kept m.r with
    | none => rfl
    | some a => rw [h] at hx; cases hx
  have HA' := Lib.hid (fact_v C hC t w B N fb m hF none hx)
  have HR := Lib.hid (fun W hW => rresult_any C hC t W B rb mb wv rv m.r hW hr)
  have c0 := cell_of' hI.blk 0
  simp only [List.getElem?_toArray, List.getElem?_cons_succ, List.getElem?_cons_zero] at c0
  have HI := Lib.hid hI
  clear hI hF hx hC hr
  go_enter Tryd.func9, Tryd.ntmps9
  go_wp2_with fail
  refine HA'.out.mono ?_
  rintro e w1 ⟨rfl, hb1⟩
  have HI1 := Lib.hid (HI.out.below hb1)
  have HB1 := Lib.hid hb1
  have hl1 := HI1.out.lt
  have d2 := cell_of' HI1.out.blk 2
  simp only [List.getElem?_toArray, List.getElem?_cons_succ, List.getElem?_cons_zero] at d2
  clear hb1 c0
  go_wp2_with fail
  generalize hW2 : World.alloc w1 _ = W2
  have hb2 : Below w1.heap.size w1 W2 := by rw [← hW2]; exact (Below.refl _ _).alloc (Nat.le_refl _) _
  have HB2 := Lib.hid (HB1.out.trans (hb2.mono HB1.out.size))
  have HI2 := Lib.hid (HI1.out.below hb2)
  clear hb2 hW2 d2 hl1
  refine (HR.out _ HI2.out.r).mono ?_
  rintro e w3 ⟨v, rfl, hown, hb3⟩
  have HO := Lib.hid hown
  have HB3 := Lib.hid hb3
  clear hown hb3
  go_wp2_with fail
  go_ret2
  have hs := HB2.out.size
  exact ⟨v, rfl, own_lower HO.out hs, HB2.out.trans (HB3.out.mono hs)⟩
end Go.Proofs.YtkoebhflbhpfnaaDoor.Fl
namespace Go.Proofs.YtkoebhflbhpfnaaDoor.Fl
open Go.RowKit Bq Go.Proofs.YtkoebhflbhpfnaaDoorW.PrintWords Go.Proofs.YtkoebhflbhpfnaaDoorW.PrintLast Go.Proofs.YtkoebhflbhpfnaaDoorW.PrintMore
set_option linter.unusedVariables false
set_option linter.unusedSimpArgs false
theorem RAt.lower {C : Cf} {t : St} {B B' : Nat} {w : World} {rb mb : Nat} {wv rv : Value} {r : RS} (h : RAt C t B w rb mb wv rv r) (hB : B' ≤ B) : RAt C t B' w rb mb wv rv r :=
  ⟨h.blk, own_lower h.wait hB, own_lower h.row hB, h.map, ⟨Nat.le_trans hB h.lo.1, Nat.le_trans hB h.lo.2.1, h.lo.2.2⟩, h.ne, h.le⟩
theorem s0_ok {T : Nat} (hT : 1 ≤ T) : SOk T 0 s0 := ⟨by show 1 ≤ 1 ∧ 1 ≤ 12; omega, by show (0 : Int) ≤ 0 ∧ (0 : Int) < 18446744073709551616; omega, by show (0 : Int) ≤ 0 ∧ (0 : Int) < 18446744073709551616; omega, ⟨Nat.zero_le _, fun h => by revert h; show 1 = 4 → _; omega⟩, ⟨Nat.zero_le _, Nat.zero_le _, fun h => by revert h; show 1 = 8 ∨ 1 = 9 → _; omega⟩, Nat.le_refl _⟩
def MkPost (C : Cf) (t : St) (w : World) (e : Ending) (w' : World) : Prop := ∃ fb, e = .returned (.pointer (some ⟨fb, 0, none⟩)) ∧ FAt C t w.heap.size 0 w' fb m0 ∧ Below w.heap.size w w'
theorem mk_end {C : Cf} (hC : COk C) {t : St} {w W : World} {rb mb sb : Nat} {wv : Value} {B1 : Nat} (hb : Below w.heap.size w W) (hR : RAt C t B1 W rb mb wv (.slice none 0 0) ⟨[], 0, []⟩) (hB1 : w.heap.size ≤ B1) (hS : SwAt C t W sb s0) (hB2 : w.heap.size ≤ sb) :
    MkPost C t w (.returned (.pointer (some ⟨W.heap.size, 0, none⟩))) (W.alloc (.cells #[.bool true, .bool C.swept, .pointer (some ⟨rb, 0, none⟩), .pointer (some ⟨sb, 0, none⟩)] 50)) := by
  have hal : Below W.heap.size W (W.alloc (.cells #[.bool true, .bool C.swept, .pointer (some ⟨rb, 0, none⟩), .pointer (some ⟨sb, 0, none⟩)] 50)) := (Below.refl _ _).alloc (Nat.le_refl _) _
  exact ⟨_, rfl, ⟨rb, mb, sb, wv, .slice none 0 0, ⟨heap_alloc_new W _, (hR.lower hB1).below hal, hS.below hal, s0_ok hC.th.1, ⟨hb.size, hB2⟩⟩⟩, hb.trans (hal.mono hb.size)⟩
set_option maxRecDepth 100000 in
set_option maxHeartbeats 4000000 in
theorem fnew_any (C : Cf) (hC : COk C) (t : St) (w : World) (A : Option Addr) (cp : Nat) (hD : Dk w) (h : siteB C.desk t.th C.threads t.ke = true) (hr : Kd.C (Kd.int .u64) w A C.kept.length C.kept) :
    Calls Tryd.prog 5 #[encS C.desk t.th C.threads t.ke t.se, .slice A C.kept.length cp, .bool C.swept] w (MkPost C t w) := by
  have HRT := fun W hW => right_any C.desk t.th C.threads t.ke t.se W hW
  rw [h] at HRT
  have hd1 : Dk (w.alloc (.cells #[.int .u64 C.desk, .int .i64 t.th, .int .i64 C.threads, .int .i64 t.ke, .int .u64 t.se] 24)) := hD.below ((Below.refl _ _).alloc (Nat.le_refl _) _)
  have H1 := Lib.hid (HRT _ hd1)
  have HR0 := Lib.hid hr
  have HD0 := Lib.hid hD
  have HC := Lib.hid hC
  have HL := Lib.hid (fun W (hW : Below w.heap.size w W) => look_any C hC t W A cp (hD.below hW) h (Kd.C_below hr hW))
  have HN := Lib.hid (fun W (hW : Below w.heap.size w W) => snew_any C t W (hD.below hW) h)
  clear HRT hd1 hD h hr hC
  unfold encS at *
  go_enter Tryd.func5, Tryd.ntmps5
  go_wp2_with fail
  refine H1.out.mono ?_
  rintro e w1 ⟨rfl, hb1⟩
  have hx := (hb1.block w.heap.size (by simp)).trans (heap_alloc_new w _)
  have hs := hb1.size
  simp only [World.size_alloc] at hs
  have hB1 : Below w.heap.size w w1 := ((Below.refl w.heap.size w).alloc (Nat.le_refl _) _).trans (hb1.mono (by simp))
  have HB1 := Lib.hid hB1
  have hlt : w.heap.size < w1.heap.size := by omega
  have HS := Lib.hid hs
  have HX := Lib.hid hx
  have dT : ∀ w' : World, Below w1.heap.size w1 w' → World.cell? w' ⟨w.heap.size, 0, none⟩ = some (.int .u64 C.desk) ∧ World.cell? w' ⟨w.heap.size, 1, none⟩ = some (.int .i64 t.th) ∧ World.cell? w' ⟨w.heap.size, 2, none⟩ = some (.int .i64 C.threads) ∧ World.cell? w' ⟨w.heap.size, 3, none⟩ = some (.int .i64 t.ke) ∧ World.cell? w' ⟨w.heap.size, 4, none⟩ = some (.int .u64 t.se) ∧ Below w1.heap.size w1 w' := fun w' hb =>
    have hx' := (hb.block w.heap.size (by have := HS.out; omega)).trans HX.out
    ⟨cell_of' hx' 0, cell_of' hx' 1, cell_of' hx' 2, cell_of' hx' 3, cell_of' hx' 4, hb⟩
  have dB : ∀ w' : World, Below w1.heap.size w1 w' → Below w.heap.size w w' := fun w' hb => HB1.out.trans (hb.mono HB1.out.size)
  clear hx hb1 hs hB1
  go_wp2_with fail
  go_region_held3 (fun w' => World.cell? w' ⟨w.heap.size, 0, none⟩ = some (.int .u64 C.desk) ∧ World.cell? w' ⟨w.heap.size, 1, none⟩ = some (.int .i64 t.th) ∧ World.cell? w' ⟨w.heap.size, 2, none⟩ = some (.int .i64 C.threads) ∧ World.cell? w' ⟨w.heap.size, 3, none⟩ = some (.int .i64 t.ke) ∧ World.cell? w' ⟨w.heap.size, 4, none⟩ = some (.int .u64 t.se) ∧ Below w1.heap.size w1 w')
    (first
      | exact dT _ (Below.refl _ _).drew
      | (refine dT _ ?_; first | assumption | (go_split_ands; first | exact Below.trans (by assumption) (hbl.mono (Below.size (by assumption))) | exact Below.trans (by assumption) (hbs.mono (Below.size (by assumption))) | exact Below.alloc (by assumption) (Below.size (by assumption)) _ | exact (Below.alloc (by assumption) (Below.size (by assumption)) _).drew)))
    (first
      | (go_at_call 13; refine (HL.out _ ?_).mono ?_; (go_split_ands; exact dB _ (by assumption)); rintro e w2 ⟨rb, mb, wv, rfl, hRat, hbl⟩)
      | (go_at_call 14; refine (HN.out _ ?_).mono ?_; (go_split_ands; exact dB _ (by assumption)); rintro e w3 ⟨sb, rfl, hslo, hSw, hbs⟩))
  · have e1 : Below w1.heap.size w1 w2 := (Below.refl w1.heap.size w1).drew.trans hbl
    have e2 : Below w1.heap.size w1 w3 := e1.trans (hbs.mono e1.size)
    have FIN := Lib.hid (mk_end HC.out (dB _ e2) (hRat.below hbs) (by show w.heap.size ≤ w1.heap.size; omega) hSw (by have := e1.size; omega))
    rename_i hHeld
    clear hHeld hRat hbl hslo hSw hbs e1 e2 dT dB
    go_wp2_with fail
    go_ret
    exact FIN.out
/-- Who was not made. -/
def NoAt (w : World) (fb : Nat) : Prop := w.heap[fb]? = some (.cells #[.bool false, .bool false, .pointer none, .pointer none] 50 (0, 0))
theorem NoAt.below {w w' : World} {fb : Nat} (h : NoAt w fb) (hb : Below w.heap.size w w') : NoAt w' fb := (hb.block fb (Array.getElem?_eq_some_iff.1 h).1).trans h
set_option maxHeartbeats 1000000 in
theorem fnew_bad (d th ts ke se : Int) (v : Value) (sw : Bool) (w : World) (hD : Dk w) (h : siteB d th ts ke = false) :
    Calls Tryd.prog 5 #[encS d th ts ke se, v, .bool sw] w fun e w' => ∃ fb, e = .returned (.pointer (some ⟨fb, 0, none⟩)) ∧ w.heap.size ≤ fb ∧ NoAt w' fb ∧ Below w.heap.size w w' := by
  have HRT := fun W hW => right_any d th ts ke se W hW
  rw [h] at HRT
  have hd1 : Dk (w.alloc (.cells #[.int .u64 d, .int .i64 th, .int .i64 ts, .int .i64 ke, .int .u64 se] 24)) := hD.below ((Below.refl _ _).alloc (Nat.le_refl _) _)
  have H1 := Lib.hid (HRT _ hd1)
  clear HRT hd1 hD h
  unfold encS at *
  go_enter Tryd.func5, Tryd.ntmps5
  go_wp2_with fail
  refine H1.out.mono ?_
  rintro e w1 ⟨rfl, hb1⟩
  have hB1 : Below w.heap.size w w1 := ((Below.refl w.heap.size w).alloc (Nat.le_refl _) _).trans (hb1.mono (by simp))
  have HB1 := Lib.hid hB1
  clear hb1 hB1
  go_wp2_with fail
  go_ret
  exact ⟨_, rfl, HB1.out.size, heap_alloc_new w1 _, HB1.out.alloc HB1.out.size _⟩
set_option maxHeartbeats 1000000 in
theorem fact_no (w : World) (fb : Nat) (h : NoAt w fb) : Calls Tryd.prog 7 #[.pointer (some ⟨fb, 0, none⟩)] w fun e w' => e = .returned (encO none) ∧ Below w.heap.size w w' := by
  have hlt : fb < w.heap.size := (Array.getElem?_eq_some_iff.1 h).1
  unfold NoAt at h
  have c0 := cell_of' h 0
  simp only [List.getElem?_toArray, List.getElem?_cons_succ, List.getElem?_cons_zero] at c0
  clear h
  go_enter Tryd.func7, Tryd.ntmps7
  go_wp2_with fail
  exact ⟨rfl, _, ret_act rfl (heap_alloc_new w _) rfl rfl, rfl, (Below.refl _ _).alloc (Nat.le_refl _) _⟩
set_option maxHeartbeats 1000000 in
theorem fact_nil (w : World) : Calls Tryd.prog 7 #[.pointer none] w fun e w' => e = .returned (encO none) ∧ Below w.heap.size w w' := by
  go_enter Tryd.func7, Tryd.ntmps7
  go_wp2_with fail
  exact ⟨rfl, _, ret_act rfl (heap_alloc_new w _) rfl rfl, rfl, (Below.refl _ _).alloc (Nat.le_refl _) _⟩
set_option maxHeartbeats 1000000 in
theorem ftake_no (p : Value) (g : Int) (w : World) (h : Calls Tryd.prog 7 #[p] w fun e w' => e = .returned (encO none) ∧ Below w.heap.size w w') :
    Calls Tryd.prog 8 #[p, .int .u64 g] w fun e w' => e = .returned (.tuple #[]) ∧ Below w.heap.size w w' := by
  unfold encO encA at h
  have HA := Lib.hid h
  clear h
  go_enter Tryd.func8, Tryd.ntmps8
  go_wp2_with fail
  refine HA.out.mono ?_
  rintro e w1 ⟨rfl, hb1⟩
  have HB1 := Lib.hid hb1
  clear hb1
  go_wp2_with fail
  refine bodyPost_ret (results_none rfl _ _ _) rfl ?_
  exact ⟨rfl, HB1.out.alloc HB1.out.size _⟩
set_option maxHeartbeats 1000000 in
theorem fresult_no (w : World) (fb : Nat) (h : NoAt w fb) : Calls Tryd.prog 9 #[.pointer (some ⟨fb, 0, none⟩)] w fun e w' => e = .returned (.tuple #[.slice none 0 0, .bool false]) ∧ w' = w := by
  unfold NoAt at h
  have c0 := cell_of' h 0
  simp only [List.getElem?_toArray, List.getElem?_cons_succ, List.getElem?_cons_zero] at c0
  clear h
  go_enter Tryd.func9, Tryd.ntmps9
  go_wp2_with fail
  go_ret2
  exact ⟨rfl, rfl⟩
set_option maxHeartbeats 1000000 in
theorem fresult_nil (w : World) : Calls Tryd.prog 9 #[.pointer none] w fun e w' => e = .returned (.tuple #[.slice none 0 0, .bool false]) ∧ w' = w := by
  go_enter Tryd.func9, Tryd.ntmps9
  go_wp2_with fail
  go_ret2
  exact ⟨rfl, rfl⟩
end Go.Proofs.YtkoebhflbhpfnaaDoor.Fl
namespace Go.Proofs.YtkoebhflbhpfnaaDoor.Fl
open Go.RowKit Bq Go.Proofs.YtkoebhflbhpfnaaDoorW.PrintWords Go.Proofs.YtkoebhflbhpfnaaDoorW.PrintLast Go.Proofs.YtkoebhflbhpfnaaDoorW.PrintMore
set_option linter.unusedVariables false
set_option linter.unusedSimpArgs false
def C1 : Cf := ⟨1, 1, [], false⟩
def C2 : Cf := ⟨1, 1, [7], true⟩
def t1 : St := ⟨0, 1, 0⟩
theorem c1_ok : COk C1 := ⟨by show 1 ≤ 1 ∧ 1 ≤ 64; omega, by show 0 ≤ 1000; omega, fun k hk => by cases hk⟩
theorem c2_ok : COk C2 := ⟨by show 1 ≤ 1 ∧ 1 ≤ 64; omega, by show 1 ≤ 1000; omega, fun k hk => by
  have : k = 7 := by simpa [C2] using hk
  omega⟩
theorem x1 : fact C1 m0 = some ⟨1, 1, 1, 0, 0⟩ := by decide
theorem x2 : fact C1 (ftake C1 m0 16) = some ⟨1, 1, 0, 0, 0⟩ := by decide
theorem x3 : fact C1 (ftake C1 (ftake C1 m0 16) 2) = none := by decide
theorem x4 : (ftake C1 (ftake C1 m0 16) 2).r.rest = [] := by decide
theorem y1 : fact C2 m0 = some ⟨1, 1, 3, 0, 0⟩ := by decide
theorem y2 : fact C2 (ftake C2 m0 7) = none := by decide
theorem y3 : (ftake C2 m0 7).r.rest = [7] := by decide
theorem site_1 : siteB 1 0 1 1 = true := by decide
theorem words_l (l : List Int) (hl : l.length < 1000000) : ∀ (d i : Nat), i + d = l.length → PFlushActs.sprocketref02_Words.l0 (d + 1) l l (i : Int) = some true := by
  intro d
  induction d with
  | zero =>
    intro i hi
    simp only [PFlushActs.sprocketref02_Words.l0]
    rw [if_neg (by omega)]
  | succ d ih =>
    intro i hi
    conv => lhs; unfold PFlushActs.sprocketref02_Words.l0
    rw [if_pos (by omega), if_pos (by omega), if_pos (by omega), if_pos rfl, show wrap64 ((i : Int) + 1) = ((i + 1 : Nat) : Int) by unfold wrap64; omega]
    exact ih (i + 1) (by omega)
theorem words_same (l : List Int) (hl : l.length < 1000000) : ∃ k, PFlushActs.sprocketref02_Words.f k l l = some true :=
  ⟨l.length + 1, by
    unfold PFlushActs.sprocketref02_Words.f
    rw [if_pos rfl]
    exact words_l l hl l.length 0 (by omega)⟩
theorem own_cap {W : World} {B n c : Nat} {A : Option Addr} {xs : List Value} (h : W.ownsRow B 22 1 (.slice A n c) n xs) : n ≤ c := by
  rcases h.2 with ⟨e, h0⟩ | ⟨g, cap, cur, e, _, _, h1, _⟩
  · omega
  · injection e with _ _ e3
    omega
def TrueBel (w : World) (e : Ending) (w' : World) : Prop := e = .returned (.bool true) ∧ Below w.heap.size w w'
theorem reads_nil (w : World) : Kd.C (Kd.int .u64) w none (0 : Nat) [] := ⟨rfl, by omega, fun h => absurd h (by omega)⟩
theorem reads_one {w : World} {b : Nat} {x : Int} (h : w.heap[b]? = some (.cells #[.int .u64 x] 22 (0, 0))) : Kd.C (Kd.int .u64) w (some ⟨b, 0, none⟩) (1 : Nat) [x] :=
  (owns_reads (base := 0) (A := some ⟨b, 0, none⟩) (n := 1) (c := 1) (l := [x]) ⟨rfl, Or.inr ⟨b, 1, _, rfl, Nat.zero_le _, h, Nat.le_refl _, by decide, rfl, rfl⟩⟩ (by simp)).2
set_option maxRecDepth 100000 in
set_option maxHeartbeats 16000000 in
theorem awake_any (w : World) (hD : Dk w) : Calls Tryd.prog 4 #[] w (TrueBel w) := by
  have HD := Lib.hid hD
  have HN1 := Lib.hid (show ∀ W : World, Below w.heap.size w W → Calls Tryd.prog 5 #[.agg #[.int .u64 1, .int .i64 0, .int .i64 1, .int .i64 1, .int .u64 0], .slice none 0 0, .bool false] W (MkPost C1 t1 W) from fun W hW => fnew_any C1 c1_ok t1 W none 0 (hD.below hW) site_1 (reads_nil W))
  have HN2 := Lib.hid (show ∀ (W : World) (b : Nat), Below w.heap.size w W → W.heap[b]? = some (.cells #[.int .u64 7] 22 (0, 0)) → Calls Tryd.prog 5 #[.agg #[.int .u64 1, .int .i64 0, .int .i64 1, .int .i64 1, .int .u64 0], .slice (some ⟨b, 0, none⟩) 1 1, .bool true] W (MkPost C2 t1 W) from fun W b hW hb => fnew_any C2 c2_ok t1 W (some ⟨b, 0, none⟩) 1 (hD.below hW) site_1 (reads_one hb))
  clear hD
  go_enter Tryd.func4, Tryd.ntmps4
  go_wp2_with fail
  refine (HN1.out _ (Below.refl _ _)).mono ?_
  rintro e w1 ⟨fb, rfl, hF1, hb1⟩
  have F1 := Lib.hid hF1
  have B1 := Lib.hid hb1
  clear hF1 hb1
  go_wp2_with fail
  refine (fact_v C1 c1_ok t1 _ _ 0 fb m0 F1.out _ x1).mono ?_
  rintro e w2 ⟨rfl, hb2⟩
  have B2 := Lib.hid (B1.out.trans (hb2.mono B1.out.size))
  have F2 := Lib.hid (F1.out.below hb2)
  clear hb2
  go_wp2_with fail
  generalize hV1 : World.alloc w2 _ = v1
  have ha1 : v1.heap[w2.heap.size]? = some (.cells #[.int .i64 1, .int .u64 1, .int .i64 1, .int .u64 0, .int .u64 0] 31 (0, 0)) := by rw [← hV1]; exact heap_alloc_new w2 _
  have hq1 : Below w2.heap.size w2 v1 := by rw [← hV1]; exact (Below.refl _ _).alloc (Nat.le_refl _) _
  generalize w2.heap.size = a1 at ha1 ⊢
  have B3 := Lib.hid (B2.out.trans (hq1.mono B2.out.size))
  have F3 := Lib.hid (F2.out.below hq1)
  have A1 := Lib.hid ha1
  clear hV1 hq1 ha1
  go_wp2_with fail
  refine (ftake_any C1 c1_ok t1 _ _ 0 fb m0 16 (by omega) (by omega) F3.out).mono ?_
  rintro e w4 ⟨rfl, hF4, hb4, hk4⟩
  have B4 := Lib.hid (B3.out.trans hb4)
  have F4 := Lib.hid hF4
  have A2 := Lib.hid (hk4 _ _ A1.out)
  clear hF4 hb4 hk4
  go_wp2_with fail
  refine (fact_v C1 c1_ok t1 _ _ 1 fb _ F4.out _ x2).mono ?_
  rintro e w5 ⟨rfl, hb5⟩
  have B5 := Lib.hid (B4.out.trans (hb5.mono B4.out.size))
  have F5 := Lib.hid (F4.out.below hb5)
  have A3 := Lib.hid (KT.of_below hb5 _ _ A2.out)
  clear hb5
  go_wp2_with fail
  generalize hV2 : World.alloc w5 _ = v2
  have ha2 : v2.heap[w5.heap.size]? = some (.cells #[.int .i64 1, .int .u64 1, .int .i64 0, .int .u64 0, .int .u64 0] 31 (0, 0)) := by rw [← hV2]; exact heap_alloc_new w5 _
  have hq2 : Below w5.heap.size w5 v2 := by rw [← hV2]; exact (Below.refl _ _).alloc (Nat.le_refl _) _
  generalize w5.heap.size = a2 at ha2 ⊢
  have B6 := Lib.hid (B5.out.trans (hq2.mono B5.out.size))
  have F6 := Lib.hid (F5.out.below hq2)
  have A4 := Lib.hid (KT.of_below hq2 _ _ A3.out)
  have D4 := Lib.hid ha2
  clear hV2 hq2 ha2
  go_wp2_with fail
  refine (ftake_any C1 c1_ok t1 _ _ 1 fb _ 2 (by omega) (by omega) F6.out).mono ?_
  rintro e w7 ⟨rfl, hF7, hb7, hk7⟩
  have B7 := Lib.hid (B6.out.trans hb7)
  have F7 := Lib.hid hF7
  have A5 := Lib.hid (hk7 _ _ A4.out)
  have D5 := Lib.hid (hk7 _ _ D4.out)
  clear hF7 hb7 hk7
  go_wp2_with fail
  refine (fresult_done C1 c1_ok t1 _ _ 2 fb _ F7.out x3).mono ?_
  rw [x4]
  rintro e w8 ⟨u, rfl, hu, hb8⟩
  obtain ⟨Au, cu, rfl⟩ := own_form hu
  have B8 := Lib.hid (B7.out.trans (hb8.mono B7.out.size))
  have A6 := Lib.hid (KT.of_below hb8 _ _ A5.out)
  have D6 := Lib.hid (KT.of_below hb8 _ _ D5.out)
  clear hb8 hu
  go_wp2_with fail
  generalize hV3 : World.alloc w8 _ = v3
  have ha3 : v3.heap[w8.heap.size]? = some (.cells #[.int .u64 7] 22 (0, 0)) := by rw [← hV3]; exact heap_alloc_new w8 _
  have hq3 : Below w8.heap.size w8 v3 := by rw [← hV3]; exact (Below.refl _ _).alloc (Nat.le_refl _) _
  generalize w8.heap.size = a3 at ha3 ⊢
  have B9 := Lib.hid (B8.out.trans (hq3.mono B8.out.size))
  have A7 := Lib.hid (KT.of_below hq3 _ _ A6.out)
  have D7 := Lib.hid (KT.of_below hq3 _ _ D6.out)
  have HA3 := Lib.hid ha3
  clear hV3 hq3 ha3
  refine (HN2.out _ a3 B9.out HA3.out).mono ?_
  rintro e w10 ⟨gb, rfl, hG1, hb10⟩
  have G1 := Lib.hid hG1
  have B10 := Lib.hid (B9.out.trans (hb10.mono B9.out.size))
  have A8 := Lib.hid (KT.of_below hb10 _ _ A7.out)
  have D8 := Lib.hid (KT.of_below hb10 _ _ D7.out)
  clear hG1 hb10
  go_wp2_with fail
  refine (fact_v C2 c2_ok t1 _ _ 0 gb m0 G1.out _ y1).mono ?_
  rintro e w11 ⟨rfl, hb11⟩
  have B11 := Lib.hid (B10.out.trans (hb11.mono B10.out.size))
  have G2 := Lib.hid (G1.out.below hb11)
  have A9 := Lib.hid (KT.of_below hb11 _ _ A8.out)
  have D9 := Lib.hid (KT.of_below hb11 _ _ D8.out)
  clear hb11
  go_wp2_with fail
  generalize hV4 : World.alloc w11 _ = v4
  have ha4 : v4.heap[w11.heap.size]? = some (.cells #[.int .i64 1, .int .u64 1, .int .i64 3, .int .u64 0, .int .u64 0] 31 (0, 0)) := by rw [← hV4]; exact heap_alloc_new w11 _
  have hq4 : Below w11.heap.size w11 v4 := by rw [← hV4]; exact (Below.refl _ _).alloc (Nat.le_refl _) _
  generalize w11.heap.size = a4 at ha4 ⊢
  have B12 := Lib.hid (B11.out.trans (hq4.mono B11.out.size))
  have G3 := Lib.hid (G2.out.below hq4)
  have A10 := Lib.hid (KT.of_below hq4 _ _ A9.out)
  have D10 := Lib.hid (KT.of_below hq4 _ _ D9.out)
  have E10 := Lib.hid ha4
  clear hV4 hq4 ha4
  go_wp2_with fail
  refine (ftake_any C2 c2_ok t1 _ _ 0 gb m0 7 (by omega) (by omega) G3.out).mono ?_
  rintro e w13 ⟨rfl, hG4, hb13, hk13⟩
  have B13 := Lib.hid (B12.out.trans (hb13.mono (by first | exact B9.out.size | exact Nat.le_trans B9.out.size (Nat.le_refl _))))
  have G4 := Lib.hid hG4
  have A11 := Lib.hid (hk13 _ _ A10.out)
  have D11 := Lib.hid (hk13 _ _ D10.out)
  have E11 := Lib.hid (hk13 _ _ E10.out)
  clear hG4 hb13 hk13
  go_wp2_with fail
  refine (fresult_done C2 c2_ok t1 _ _ 1 gb _ G4.out y2).mono ?_
  rw [y3]
  rintro e w14 ⟨u, rfl, hu, hb14⟩
  obtain ⟨Av, cv, rfl⟩ := own_form hu
  have B14 := Lib.hid (B13.out.trans (hb14.mono B13.out.size))
  have A12 := Lib.hid (KT.of_below hb14 _ _ A11.out)
  have D12 := Lib.hid (KT.of_below hb14 _ _ D11.out)
  have E12 := Lib.hid (KT.of_below hb14 _ _ E11.out)
  have U := Lib.hid hu
  clear hb14 hu
  go_wp2_with fail
  refine (ftake_no _ 1 _ (fact_nil _)).mono ?_
  rintro e w15 ⟨rfl, hb15⟩
  have B15 := Lib.hid (B14.out.trans (hb15.mono B14.out.size))
  have A13 := KT.of_below hb15 _ _ A12.out
  have D13 := KT.of_below hb15 _ _ D12.out
  have E13 := KT.of_below hb15 _ _ E12.out
  have U2 := Lib.hid (own_below U.out hb15)
  clear hb15
  go_wp2_with fail
  refine (fresult_nil _).mono ?_
  rintro e w16 ⟨rfl, rfl⟩
  have ac0 := cell_of' A13 0
  have ac1 := cell_of' A13 1
  have ac2 := cell_of' A13 2
  have ac3 := cell_of' A13 3
  have ac4 := cell_of' A13 4
  have dc0 := cell_of' D13 0
  have dc1 := cell_of' D13 1
  have dc2 := cell_of' D13 2
  have dc3 := cell_of' D13 3
  have dc4 := cell_of' D13 4
  have ec0 := cell_of' E13 0
  have ec1 := cell_of' E13 1
  have ec2 := cell_of' E13 2
  have ec3 := cell_of' E13 3
  have ec4 := cell_of' E13 4
  simp only [List.getElem?_toArray, List.getElem?_cons_succ, List.getElem?_cons_zero] at ac0 ac1 ac2 ac3 ac4 dc0 dc1 dc2 dc3 dc4 ec0 ec1 ec2 ec3 ec4
  clear A13 D13 E13
  obtain ⟨kw, hkw⟩ := words_same [7] (by simp)
  have HW := Lib.hid (show ∀ (W : World) (b : Nat), Below w16.heap.size w16 W → W.heap[b]? = some (.cells #[.int .u64 7] 22 (0, 0)) → Calls Tryd.prog 11 #[.slice Av 1 cv, .slice (some ⟨b, 0, none⟩) 1 1] W fun e w' => e = .returned (.bool true) ∧ Drawn0 W w' from fun W b hW hb => PFlushActs.sprocketref02_Words.calls kw Av cv [7] (some ⟨b, 0, none⟩) 1 [7] true W (owns_reads (own_below U2.out hW) (by simp)).2 (own_cap U2.out) (reads_one hb) (by simp) hkw)
  go_wp2_with fail
  refine (HW.out _ _ ((Below.refl _ _).alloc (Nat.le_refl _) _) (heap_alloc_new _ _)).mono ?_
  rintro e w17 ⟨rfl, nd, rfl⟩
  go_wp2_with fail
  go_ret
  exact ⟨rfl, dn' (B15.out.alloc B15.out.size _) nd⟩
end Go.Proofs.YtkoebhflbhpfnaaDoor.Fl
