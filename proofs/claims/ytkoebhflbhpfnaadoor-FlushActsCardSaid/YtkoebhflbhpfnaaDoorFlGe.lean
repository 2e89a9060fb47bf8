/- flush: the law FlushActs. Arguments opened: slices to their cells, structs by value to their fields (of no program). What the flush row's condition gives a walk; a world that meets it; the arguments opened. -/
import Derived.Test.YtkoebhflbhpfnaaDoorFlGd
import Derived.Test.YtkoebhflbhpfnaaDoorPFlushActsx5
import Derived.Deep.Slices
import Derived.Deep.Fields
import Derived.ChangeSame
import Derived.Carry
import Derived.OpenShut
import Derived.Lib.LaidU8
import Derived.Test.YtkoebhflbhpfnaaDoorRows
import Derived.Lib.LaidTab
import Derived.LaidLaws
import Derived.Deep.DeepLaidRun
namespace Go.Proofs.YtkoebhflbhpfnaaDoor.Fl
open Go.RowKit Bq Go.Proofs.YtkoebhflbhpfnaaDoorW.PrintWords Go.Proofs.YtkoebhflbhpfnaaDoorW.PrintLast Go.Proofs.YtkoebhflbhpfnaaDoorW.PrintMore
set_option linter.unusedVariables false
set_option linter.unusedSimpArgs false
theorem right_f (d th ts ke se : Int) (hd : 0 ≤ d) : PFlushActs.sprocketref14_Right.f d th ts ke se = some (siteB d th ts ke) := by
  unfold PFlushActs.sprocketref14_Right.f siteB mayB
  by_cases h0 : d > 0
  · rw [if_pos h0, decide_eq_false (show ¬ d = 0 by omega)]
    by_cases h1 : ts ≥ 1
    · rw [if_pos h1, decide_eq_true (show 1 ≤ ts by omega)]
      by_cases h2 : ts ≤ 64
      · rw [if_pos h2, decide_eq_true h2]
        by_cases h3 : th ≥ 0
        · rw [if_pos h3, decide_eq_true (show 0 ≤ th by omega)]
          by_cases h4 : th < ts
          · rw [if_pos h4, decide_eq_true h4]
            by_cases h5 : ke ≥ 1
            · rw [if_pos h5, decide_eq_true (show 1 ≤ ke by omega)]
              simp
            · rw [if_neg h5, decide_eq_false (show ¬ 1 ≤ ke by omega)]
              simp
          · rw [if_neg h4, decide_eq_false h4]
            simp
        · rw [if_neg h3, decide_eq_false (show ¬ 0 ≤ th by omega)]
          simp
      · rw [if_neg h2, decide_eq_false h2]
        simp
    · rw [if_neg h1, decide_eq_false (show ¬ 1 ≤ ts by omega)]
      simp
  · rw [if_neg h0, decide_eq_true (show d = 0 by omega)]
    simp
theorem site_ok {d th ts ke : Int} (h : siteB d th ts ke = true) : 1 ≤ ts ∧ ts ≤ 64 := by
  unfold siteB mayB at h
  simp at h
  omega
theorem run_take {C : Cf} {gl : List Int} {k : Nat} {g : Int} (h : gl[k]? = some g) : run C (gl.take (k + 1)) = ftake C (run C (gl.take k)) g := by
  rw [List.take_add_one, h]
  exact run_snoc C _ g
theorem run_over {C : Cf} {gl : List Int} : run C (gl.take (gl.length + 1)) = run C (gl.take gl.length) := by
  rw [List.take_of_length_le (by omega), List.take_length]
theorem FAt.more {C : Cf} {t : St} {B N : Nat} {w : World} {fb : Nat} {m : MS} (h : FAt C t B N w fb m) : FAt C t B (N + 1) w fb m := by
  obtain ⟨rb, mb, sb, wv, rv, h⟩ := h
  exact ⟨rb, mb, sb, wv, rv, h.more⟩
def TPd (w0 wr : World) (over : Bool) (a : Ac) (l : List Int) (e : Ending) (w' : World) : Prop :=
  ∃ (A1 : Option Addr) (c1 : Nat) (A0 : Option Addr) (c0 n : Nat) (p : Int), e = .returned (.slice A1 l.length c1) ∧ l.length ≤ c1 ∧ Kd.C (Kd.int .u64) w' A1 l.length l ∧
    w'.heap[wr.heap.size]? = some (.cells #[.slice A0 n c0, .int .i64 p, .bool over, .int .i64 a.k, .int .u64 a.b, .int .i64 a.c, .int .u64 a.o, .int .u64 a.n] 39 (0, 0)) ∧ Below wr.heap.size wr w' ∧ Below w0.heap.size w0 w'
/-- The tape's block is written, and nothing else of what was there. -/
theorem tape_below {w0 W w' : World} (hb : Below w0.heap.size w0 W) (o : Obj) (hB : Below w0.heap.size w0 w') (hk : KeepBut (W.alloc o) w' W.heap.size none) : Below W.heap.size W w' :=
  ⟨hB.os.trans hb.os.symm, hB.tape.trans hb.tape.symm, hB.output.trans hb.output.symm, by have := hk.1; simp at this; omega, fun k hk' => (hk.2 k (by simp; omega) (by omega) (by simp)).trans (Below.heap_alloc W o k hk')⟩
theorem reads_lt {w : World} {ad : Addr} {l : List Int} (h : Kd.C (Kd.int .u64) w (some ad) l.length l) (hl : 0 < l.length) : ad.block < w.heap.size := by
  have h0 := ws_cells h 0 (.int .u64 l[0]) (by unfold ws; rw [List.getElem?_map, List.getElem?_eq_getElem hl]; rfl)
  have := World.block_lt_of_cell? w _ h0
  simpa [Addr.add] using this
theorem flush_call {C : Cf} (hC : COk C) {th ke se : Int} {w0 wr : World} {A G : Option Addr} {cA cG : Nat} {gl : List Int} {k : Nat} (hk : k ≤ gl.length) (hgl : gl.length ≤ 1000) (hwg : ∀ g ∈ gl, 0 ≤ g ∧ g < 18446744073709551616)
    (hB : Below w0.heap.size w0 wr) (hA : Kd.C (Kd.int .u64) w0 A C.kept.length C.kept) (hcA : C.kept.length ≤ cA) (hG : Kd.C (Kd.int .u64) w0 G gl.length gl) :
    ∃ (over : Bool) (a : Ac) (l : List Int), ((over = false ∧ a = Ac.zero ∧ l = (run C (gl.take k)).r.rest ∧ fact C (run C (gl.take k)) = none) ∨ (over = true ∧ fact C (run C (gl.take k)) = some a)) ∧
      Calls Tryd.prog 10 #[.pointer (some ⟨wr.heap.size, 0, none⟩), encS C.desk th C.threads ke se, .slice A C.kept.length cA, .bool C.swept] (wr.alloc (.cells #[.slice G k cG, .int .i64 0, .bool false, .int .i64 0, .int .u64 0, .int .i64 0, .int .u64 0, .int .u64 0] 39)) (TPd w0 wr over a l) := by
  have hlen : (gl.take k).length = k := by rw [List.length_take]; omega
  have hkept := hC.kept
  obtain ⟨K, t, hf, hfin⟩ := flush_on (C := C) (gs := gl.take k) (by omega) hC.th.1 hC.th.2 (by omega) (fun g hg => hwg g (List.mem_of_mem_take hg)) th ke se
  obtain ⟨r1, r2, r3, r4, r5, r6, r7, r8⟩ := t
  have hal : Below w0.heap.size w0 (wr.alloc (.cells #[.slice G k cG, .int .i64 0, .bool false, .int .i64 0, .int .u64 0, .int .i64 0, .int .u64 0, .int .u64 0] 39)) := hB.alloc hB.size _
  have hIS := PFlushActs.IsS39.new w0 wr G cG (gl.take k) 0 false 0 0 0 0 0 hB (Kd.C_take hG hk)
  rw [hlen] at hIS
  have hc := PFlushActs.sprocketref35_Flush.calls K wr.heap.size (gl.take k) 0 false 0 0 0 0 0 C.desk th C.threads ke se A cA C.kept C.swept r1 r2 r3 r4 r5 r6 r7 r8 w0 _ hIS hal (Kd.C_below hA hal) hcA (fun ad had hpos e => by
    subst had
    have h1 := reads_lt hA hpos
    have := hB.size
    omega) hf
  have post : ∀ e w', (∃ v0_ : Value, e = .returned (v0_) ∧ Kd.R (Kd.int .u64) 22 w' (wr.alloc (.cells #[.slice G k cG, .int .i64 0, .bool false, .int .i64 0, .int .u64 0, .int .i64 0, .int .u64 0, .int .u64 0] 39)).heap.size (fun _ => True) v0_ r1 ∧ PFlushActs.IsS39 w0 w' wr.heap.size (gl.take k) r2 r3 r4 r5 r6 r7 r8 ∧ Below w0.heap.size w0 w' ∧ KeepBut (wr.alloc (.cells #[.slice G k cG, .int .i64 0, .bool false, .int .i64 0, .int .u64 0, .int .i64 0, .int .u64 0, .int .u64 0] 39)) w' wr.heap.size none) → TPd w0 wr r3 ⟨r4, r5, r6, r7, r8⟩ r1 e w' := by
    rintro e w' ⟨v0, rfl, hR, ⟨A0, c0, hheap, _, _⟩, hb, hkb⟩
    obtain ⟨A1, c1, rfl, hc1, hread⟩ := Kd.R_reads hR
    exact ⟨A1, c1, A0, c0, _, r2, rfl, hc1, hread, hheap, tape_below hB _ hb hkb, hb⟩
  have hcall := hc.mono post
  rcases hfin with ⟨p, ht, hfa⟩ | ⟨p, a, ht, hfa⟩
  · injection ht with h1 h2
    injection h2 with h2 h3
    injection h3 with h3 h4
    injection h4 with h4 h5
    injection h5 with h5 h6
    injection h6 with h6 h7
    injection h7 with h7 h8
    subst h1 h3 h4 h5 h6 h7 h8
    exact ⟨false, Ac.zero, _, Or.inl ⟨rfl, rfl, rfl, hfa⟩, hcall⟩
  · injection ht with h2 h3
    injection h3 with h3 h4
    injection h4 with h4 h5
    injection h5 with h5 h6
    injection h6 with h6 h7
    injection h7 with h7 h8
    subst h3 h4 h5 h6 h7 h8
    exact ⟨true, a, r1, Or.inr ⟨rfl, hfa⟩, hcall⟩
set_option maxRecDepth 100000 in
set_option maxHeartbeats 4000000 in
theorem acts_light (d th ts ke se : Int) (A : Option Addr) (cA : Nat) (kl : List Int) (G : Option Addr) (cG : Nat) (gl : List Int) (w : World) (hD : Dk w) (hk : Kd.C (Kd.int .u64) w A kl.length kl) (hcA : kl.length ≤ cA) (hg : Kd.C (Kd.int .u64) w G gl.length gl) (hcG : gl.length ≤ cG) (hl : 110 < gl.length ∨ 20 < kl.length) :
    Calls Tryd.prog 3 #[encS d th ts ke se, .slice A kl.length cA, .slice G gl.length cG] w (TrueBel w) := by
  have hmg := hg.2.1
  have hmk := hk.2.1
  have AW := Lib.hid (fun W (hW : Below w.heap.size w W) => awake_any W (hD.below hW))
  clear hD hk hg
  unfold encS
  by_cases h1 : 110 < gl.length
  · have b1 : decide (110 < (gl.length : Int)) = true := decide_eq_true (by omega)
    clear hl h1
    go_enter Tryd.func3, Tryd.ntmps3
    go_wp2_with fail
    refine (AW.out _ ((Below.refl _ _).alloc (Nat.le_refl _) _)).mono ?_
    rintro e w1 ⟨rfl, hb1⟩
    have B1 := Lib.hid (((Below.refl w.heap.size w).alloc (Nat.le_refl _) _).trans (hb1.mono (by simp)))
    clear hb1
    go_wp2_with fail
    go_ret
    exact ⟨rfl, B1.out⟩
  · have h2 : 20 < kl.length := by omega
    have b1 : decide (110 < (gl.length : Int)) = false := decide_eq_false (by omega)
    have b2 : decide (20 < (kl.length : Int)) = true := decide_eq_true (by omega)
    clear hl h1 h2
    go_enter Tryd.func3, Tryd.ntmps3
    go_wp2_with fail
    refine (AW.out _ ((Below.refl _ _).alloc (Nat.le_refl _) _)).mono ?_
    rintro e w1 ⟨rfl, hb1⟩
    have B1 := Lib.hid (((Below.refl w.heap.size w).alloc (Nat.le_refl _) _).trans (hb1.mono (by simp)))
    clear hb1
    go_wp2_with fail
    go_ret
    exact ⟨rfl, B1.out⟩
set_option maxRecDepth 100000 in
set_option maxHeartbeats 16000000 in
theorem acts_bad (d th ts ke se : Int) (A : Option Addr) (cA : Nat) (kl : List Int) (G : Option Addr) (cG : Nat) (gl : List Int) (w : World) (hD : Dk w) (hk : Kd.C (Kd.int .u64) w A kl.length kl) (hcA : kl.length ≤ cA) (hg : Kd.C (Kd.int .u64) w G gl.length gl) (hcG : gl.length ≤ cG) (hl : gl.length ≤ 110) (hl2 : kl.length ≤ 20) (hd : 0 ≤ d) (hsite : siteB d th ts ke = false) :
    Calls Tryd.prog 3 #[encS d th ts ke se, .slice A kl.length cA, .slice G gl.length cG] w (TrueBel w) := by
  have hmg := hg.2.1
  have hmk := hk.2.1
  have b1 : decide (110 < (gl.length : Int)) = false := decide_eq_false (by omega)
  have b2 : decide (20 < (kl.length : Int)) = false := decide_eq_false (by omega)
  obtain ⟨w0, hw0⟩ : ∃ w0, w0 = w.alloc (.cells #[.int .u64 d, .int .i64 th, .int .i64 ts, .int .i64 ke, .int .u64 se] 24) := ⟨_, rfl⟩
  have hb0 : Below w.heap.size w w0 := by rw [hw0]; exact (Below.refl _ _).alloc (Nat.le_refl _) _
  have hx0 : w0.heap[w.heap.size]? = some (.cells #[.int .u64 d, .int .i64 th, .int .i64 ts, .int .i64 ke, .int .u64 se] 24 (0, 0)) := by rw [hw0]; exact heap_alloc_new w _
  have hs0 : w0.heap.size = w.heap.size + 1 := by rw [hw0]; simp
  have AW := Lib.hid (fun W (hW : Below w0.heap.size w0 W) => awake_any W ((hD.below hb0).below hW))
  have HD := Lib.hid (hD.below hb0)
  have HK := Lib.hid (Kd.C_below hk hb0)
  have HG := Lib.hid (Kd.C_below hg hb0)
  have HB0 := Lib.hid hb0
  have HX0 := Lib.hid hx0
  have HS0 := Lib.hid hs0
  have HW0 := Lib.hid hw0
  have hlb : w.heap.size < w0.heap.size := by omega
  clear hD hk hg hb0 hx0 hs0 hw0
  unfold encS
  go_enter Tryd.func3, Tryd.ntmps3
  go_wp2_with fail
  rw [← HW0.out]
  go_loopw [7] (fun i wr => ∃ k : Nat, k ≤ 2 ∧ i = .int .i64 k ∧ Below w0.heap.size w0 wr) (fun i _ => 2 - (intOf i).toNat)
  case atStart => exact ⟨0, by omega, rfl, Below.refl _ _⟩
  case round =>
    obtain ⟨i, hi, rfl, hB⟩ := hrel
    have HB := Lib.hid hB
    have hlr : w.heap.size < wr.heap.size := by have := hB.size; omega
    have hxr := (hB.block _ hlb).trans HX0.out
    have s0 := cell_of' hxr 0
    have s1 := cell_of' hxr 1
    have s2 := cell_of' hxr 2
    have s3 := cell_of' hxr 3
    have s4 := cell_of' hxr 4
    simp only [List.getElem?_toArray, List.getElem?_cons_succ, List.getElem?_cons_zero] at s0 s1 s2 s3 s4
    clear hB hxr
    by_cases hi2 : i < 2
    · have hi' : i = 0 ∨ i = 1 := by omega
      have HN := Lib.hid (fun b => fnew_bad d th ts ke se (.slice A kl.length cA) b wr (HD.out.below HB.out) hsite)
      have hrf := right_f d th ts ke se hd
      rw [hsite] at hrf
      have HRR := Lib.hid (fun W => PFlushActs.sprocketref14_Right.calls d th ts ke se false W hrf)
      unfold encS at HN
      clear hrf hsite
      rcases hi' with rfl | rfl
      all_goals
        go_wp2_with fail
        refine (HN.out _).mono ?_
        rintro e w1 ⟨fb, rfl, hlo, hno, hb1⟩
        have HB1 := Lib.hid (HB.out.trans (hb1.mono HB.out.size))
        have HNO1 := Lib.hid hno
        have hl1 : w.heap.size < w1.heap.size := by have := hb1.size; omega
        have hx1 := (HB1.out.block _ hlb).trans HX0.out
        have q0 := cell_of' hx1 0
        have q1 := cell_of' hx1 1
        have q2 := cell_of' hx1 2
        have q3 := cell_of' hx1 3
        have q4 := cell_of' hx1 4
        simp only [List.getElem?_toArray, List.getElem?_cons_succ, List.getElem?_cons_zero] at q0 q1 q2 q3 q4
        clear hlo hno hb1 hx1
        go_wp2_with fail
        refine (HRR.out _).mono ?_
        rintro e w2 ⟨rfl, hb2⟩
        have HB2 := Lib.hid (HB1.out.trans (hb2.mono HB1.out.size))
        have HNO2 := Lib.hid (HNO1.out.below hb2)
        have HA := Lib.hid (show Calls _ _ _ w2 fun e w' => e = .returned (.tuple #[.agg #[.int .i64 0, .int .u64 0, .int .i64 0, .int .u64 0, .int .u64 0], .bool false]) ∧ Below w2.heap.size w2 w' from fact_no w2 fb HNO2.out)
        clear hb2
        go_wp2_with fail
        refine HA.out.mono ?_
        rintro e w3 ⟨rfl, hb3⟩
        have HB3 := Lib.hid (HB2.out.trans (hb3.mono HB2.out.size))
        have HNO3 := Lib.hid (HNO2.out.below hb3)
        clear hb3
        go_wp2_with fail
        generalize hV : World.alloc w3 _ = v3
        have hv : Below w3.heap.size w3 v3 := by rw [← hV]; exact (Below.refl _ _).alloc (Nat.le_refl _) _
        have HB4 := Lib.hid (HB3.out.trans (hv.mono HB3.out.size))
        have HNO4 := Lib.hid (HNO3.out.below hv)
        clear hv hV
        go_wp2_with fail
        refine (ftake_no _ 1 _ (fact_no v3 fb HNO4.out)).mono ?_
        rintro e w5 ⟨rfl, hb5⟩
        have HB5 := Lib.hid (HB4.out.trans (hb5.mono HB4.out.size))
        have HNO5 := Lib.hid (HNO4.out.below hb5)
        clear hb5
        go_wp2_with fail
        refine (fresult_no _ _ HNO5.out).mono ?_
        rintro e w6 ⟨rfl, rfl⟩
        go_wp2_with fail
        go_roundw
        case rel => first | exact ⟨1, by omega, rfl, HB5.out⟩ | exact ⟨2, by omega, rfl, HB5.out⟩ | exact ⟨1, by omega, by go_num, HB5.out⟩ | exact ⟨2, by omega, by go_num, HB5.out⟩
        case measure => simp [intOf]
    · go_wp2_with fail
      refine (AW.out _ HB.out).mono ?_
      rintro e w1 ⟨rfl, hb1⟩
      have HB1 := Lib.hid (HB.out.trans (hb1.mono HB.out.size))
      clear hb1
      go_wp2_with fail
      go_ret
      exact ⟨rfl, HB0.out.trans (HB1.out.mono (Nat.le_of_lt hlb))⟩
def InL (C : Cf) (t : St) (B : Nat) (gl : List Int) (fb : Nat) (w0 wr : World) (k : Nat) : Prop := k ≤ gl.length + 1 ∧ FAt C t B k wr fb (run C (gl.take k)) ∧ Below w0.heap.size w0 wr
set_option maxRecDepth 100000 in
set_option maxHeartbeats 16000000 in
theorem acts_good (d th : Int) (T : Nat) (ke se : Int) (A : Option Addr) (cA : Nat) (kl : List Int) (G : Option Addr) (cG : Nat) (gl : List Int) (w : World) (hD : Dk w) (hk : Kd.C (Kd.int .u64) w A kl.length kl) (hcA : kl.length ≤ cA) (hg : Kd.C (Kd.int .u64) w G gl.length gl) (hcG : gl.length ≤ cG) (hl : gl.length ≤ 110) (hl2 : kl.length ≤ 20) (hd : 0 ≤ d) (hsite : siteB d th T ke = true) (hwk : ∀ k ∈ kl, 0 ≤ k ∧ k < 18446744073709551616) (hwg : ∀ g ∈ gl, 0 ≤ g ∧ g < 18446744073709551616) :
    Calls Tryd.prog 3 #[encS d th T ke se, .slice A kl.length cA, .slice G gl.length cG] w (TrueBel w) := by
  have hT : 1 ≤ T ∧ T ≤ 64 := by have := site_ok hsite; omega
  have hmg := hg.2.1
  have hmk := hk.2.1
  have b1 : decide (110 < (gl.length : Int)) = false := decide_eq_false (by omega)
  have b2 : decide (20 < (kl.length : Int)) = false := decide_eq_false (by omega)
  obtain ⟨w0, hw0⟩ : ∃ w0, w0 = w.alloc (.cells #[.int .u64 d, .int .i64 th, .int .i64 T, .int .i64 ke, .int .u64 se] 24) := ⟨_, rfl⟩
  have hb0 : Below w.heap.size w w0 := by rw [hw0]; exact (Below.refl _ _).alloc (Nat.le_refl _) _
  have hx0 : w0.heap[w.heap.size]? = some (.cells #[.int .u64 d, .int .i64 th, .int .i64 T, .int .i64 ke, .int .u64 se] 24 (0, 0)) := by rw [hw0]; exact heap_alloc_new w _
  have hs0 : w0.heap.size = w.heap.size + 1 := by rw [hw0]; simp
  have AW := Lib.hid (fun W (hW : Below w0.heap.size w0 W) => awake_any W ((hD.below hb0).below hW))
  have HD := Lib.hid (hD.below hb0)
  have HK := Lib.hid (Kd.C_below hk hb0)
  have HG := Lib.hid (Kd.C_below hg hb0)
  have HB0 := Lib.hid hb0
  have HX0 := Lib.hid hx0
  have HS0 := Lib.hid hs0
  have HW0 := Lib.hid hw0
  have hlb : w.heap.size < w0.heap.size := by omega
  clear hD hk hg hb0 hx0 hs0 hw0
  unfold encS
  go_enter Tryd.func3, Tryd.ntmps3
  go_wp2_with fail
  rw [← HW0.out]
  go_loopw [7] (fun i wr => ∃ k : Nat, k ≤ 2 ∧ i = .int .i64 k ∧ Below w0.heap.size w0 wr) (fun i _ => 2 - (intOf i).toNat)
  case atStart => exact ⟨0, by omega, rfl, Below.refl _ _⟩
  case round =>
    obtain ⟨i, hi, rfl, hB⟩ := hrel
    have HB := Lib.hid hB
    have hlr : w.heap.size < wr.heap.size := by have := hB.size; omega
    have hxr := (hB.block _ hlb).trans HX0.out
    have s0 := cell_of' hxr 0
    have s1 := cell_of' hxr 1
    have s2 := cell_of' hxr 2
    have s3 := cell_of' hxr 3
    have s4 := cell_of' hxr 4
    simp only [List.getElem?_toArray, List.getElem?_cons_succ, List.getElem?_cons_zero] at s0 s1 s2 s3 s4
    clear hB hxr
    by_cases hi2 : i < 2
    · have hi' : i = 0 ∨ i = 1 := by omega
      have hrf := right_f d th T ke se hd
      rw [hsite] at hrf
      have HRR := Lib.hid (fun W => PFlushActs.sprocketref14_Right.calls d th T ke se true W hrf)
      clear hrf
      rcases hi' with rfl | rfl
      · obtain ⟨C, hCe⟩ : ∃ C : Cf, C = ⟨d, T, kl, false⟩ := ⟨_, rfl⟩
        have hC : COk C := by rw [hCe]; exact ⟨hT, by show kl.length ≤ 1000; omega, hwk⟩
        have HC := Lib.hid hC
        have HCE := Lib.hid hCe
        have HN := Lib.hid (show Calls Tryd.prog 5 #[.agg #[.int .u64 d, .int .i64 th, .int .i64 T, .int .i64 ke, .int .u64 se], .slice A kl.length cA, .bool false] wr (MkPost C ⟨th, ke, se⟩ wr) from by
          have := fnew_any C hC ⟨th, ke, se⟩ wr A cA (HD.out.below HB.out) (by rw [hCe]; exact hsite) (by rw [hCe]; exact Kd.C_below HK.out HB.out)
          rw [hCe] at this ⊢
          exact this)
        have HFL := Lib.hid (fun k => flush_on (C := C) (gs := gl.take k) (by rw [hCe]; show kl.length < 1000000000; omega) hC.th.1 hC.th.2 (by rw [List.length_take]; omega) (fun g hg => hwg g (List.mem_of_mem_take hg)) th ke se)
        clear hC hCe
        go_wp2_with fail
        refine HN.out.mono ?_
        rintro e w1 ⟨fb, rfl, hF1, hb1⟩
        have HB1 := Lib.hid (HB.out.trans (hb1.mono HB.out.size))
        have HF1 := Lib.hid hF1
        have HBW := Lib.hid HB.out.size
        have hl1 : w.heap.size < w1.heap.size := by have := hb1.size; omega
        have hx1 := (HB1.out.block _ hlb).trans HX0.out
        have q0 := cell_of' hx1 0
        have q1 := cell_of' hx1 1
        have q2 := cell_of' hx1 2
        have q3 := cell_of' hx1 3
        have q4 := cell_of' hx1 4
        simp only [List.getElem?_toArray, List.getElem?_cons_succ, List.getElem?_cons_zero] at q0 q1 q2 q3 q4
        clear hF1 hb1 hx1 s0 s1 s2 s3 s4
        go_wp2_with fail
        refine (HRR.out _).mono ?_
        rintro e w2 ⟨rfl, hb2⟩
        have HB2 := Lib.hid (HB1.out.trans (hb2.mono HB1.out.size))
        have HF2 := Lib.hid (HF1.out.below hb2)
        clear hb2 q0 q1 q2 q3 q4 hl1
        generalize wr.heap.size = BB at HBW HF1 HF2
        obtain ⟨wo, hwo⟩ : ∃ wo : World, wo = wr := ⟨_, rfl⟩
        clear hlr
        go_wp2_with fail
        go_loopw [13] (fun j wi => ∃ k : Nat, j = .int .i64 k ∧ InL C ⟨th, ke, se⟩ BB gl fb w0 wi k) (fun j _ => gl.length + 1 - (intOf j).toNat)
        case atStart => exact ⟨0, rfl, Nat.zero_le _, HF2.out, HB2.out⟩
        case round =>
          obtain ⟨k, rfl, hkl, hF, hBi⟩ := hrel
          have HF := Lib.hid hF
          have HBI := Lib.hid hBi
          clear hF hBi
          by_cases hkk : k ≤ gl.length
          · have hxi := (HBI.out.block _ hlb).trans HX0.out
            have hli : w.heap.size < wr.heap.size := by have := HBI.out.size; omega
            have s0 := cell_of' hxi 0
            have s1 := cell_of' hxi 1
            have s2 := cell_of' hxi 2
            have s3 := cell_of' hxi 3
            have s4 := cell_of' hxi 4
            simp only [List.getElem?_toArray, List.getElem?_cons_succ, List.getElem?_cons_zero] at s0 s1 s2 s3 s4
            obtain ⟨over, ac, l, hcase, hcall⟩ := flush_call HC.out (th := th) (ke := ke) (se := se) (cG := cG) hkk (by omega) hwg HBI.out (by rw [HCE.out]; exact HK.out) (by rw [HCE.out]; exact hcA) HG.out
            have HCL := Lib.hid (show Calls Tryd.prog 10 #[.pointer (some ⟨wr.heap.size, 0, none⟩), .agg #[.int .u64 d, .int .i64 th, .int .i64 T, .int .i64 ke, .int .u64 se], .slice A kl.length cA, .bool false] (wr.alloc (.cells #[.slice G k cG, .int .i64 0, .bool false, .int .i64 0, .int .u64 0, .int .i64 0, .int .u64 0, .int .u64 0] 39)) (TPd w0 wr over ac l) from by
              rw [HCE.out] at hcall
              exact hcall)
            clear hcall hxi
            have j0 : (0 : Int) ≤ (k : Int) := by omega
            have j1 : (k : Int) ≤ (cG : Int) := by omega
            have j2 : (k : Int) ≤ 110 := by omega
            go_wp2_with fail
            refine HCL.out.mono ?_
            rintro e w5 ⟨A1, c1, A0, c0, n0, p0, rfl, hc1, hr1, hx5, hb5, hbb5⟩
            have HB5 := Lib.hid hbb5
            have HX5 := Lib.hid hx5
            have HR5 := Lib.hid hr1
            have HC5 := Lib.hid hc1
            have HF5 := Lib.hid (HF.out.below hb5)
            generalize wr.heap.size = g5 at hx5 HX5
            clear hr1 hx5 hb5 hbb5 s0 s1 s2 s3 s4 hli
            rcases hcase with ⟨rfl, rfl, rfl, hfa⟩ | ⟨rfl, hfa⟩
            · have HFA := Lib.hid hfa
              clear hfa
              go_wp2_with fail
              refine (fresult_done C HC.out ⟨th, ke, se⟩ _ BB k fb _ HF5.out HFA.out).mono ?_
              rintro e w6 ⟨u, rfl, hu, hb6⟩
              obtain ⟨Au, cu, rfl⟩ := own_form hu
              have HB6 := Lib.hid (HB5.out.trans (hb6.mono HB5.out.size))
              have HF6 := Lib.hid (HF5.out.below hb6)
              have HX6 := Lib.hid ((hb6.block _ (Array.getElem?_eq_some_iff.1 HX5.out).1).trans HX5.out)
              have HR6 := Lib.hid (Kd.C_below HR5.out hb6)
              have HU6 := Lib.hid hu
              clear hu hb6
              go_wp2_with fail
              refine (fact_v C HC.out ⟨th, ke, se⟩ _ BB k fb _ HF6.out none HFA.out).mono ?_
              rintro e w7 ⟨rfl, hb7⟩
              have HB7 := Lib.hid (HB6.out.trans (hb7.mono HB6.out.size))
              have HF7 := Lib.hid (HF6.out.below hb7)
              have HX7 := Lib.hid ((hb7.block _ (Array.getElem?_eq_some_iff.1 HX6.out).1).trans HX6.out)
              have HR7 := Lib.hid (Kd.C_below HR6.out hb7)
              have HU7 := Lib.hid (own_below HU6.out hb7)
              clear hb7
              go_wp2_with fail
              generalize hW8 : World.alloc w7 _ = W8
              have hb8 : Below w7.heap.size w7 W8 := by rw [← hW8]; exact (Below.refl _ _).alloc (Nat.le_refl _) _
              have hy8 := (show W8.heap[w7.heap.size]? = some (.cells #[.int .i64 Ac.zero.k, .int .u64 Ac.zero.b, .int .i64 Ac.zero.c, .int .u64 Ac.zero.o, .int .u64 Ac.zero.n] 31 (0, 0)) from by rw [← hW8]; exact heap_alloc_new w7 _)
              have HB8 := Lib.hid (HB7.out.trans (hb8.mono HB7.out.size))
              have HF8 := Lib.hid (HF7.out.below hb8)
              have HX8 := Lib.hid ((hb8.block _ (Array.getElem?_eq_some_iff.1 HX7.out).1).trans HX7.out)
              have HR8 := Lib.hid (Kd.C_below HR7.out hb8)
              have HU8 := Lib.hid (own_below HU7.out hb8)
              generalize w7.heap.size = a8 at hy8 ⊢
              have HY8 := Lib.hid hy8
              clear hb8 hy8 hW8
              have hX8 := HX8.out
              have hY8 := HY8.out
              have q2 : ∀ p : BelowBy W8, World.cell? p.w ⟨g5, 2, none⟩ = some (.bool false) := fun p => p.cell (Array.getElem?_eq_some_iff.1 HX8.out).1 (cell_of' HX8.out 2)
              have q3 : ∀ p : BelowBy W8, World.cell? p.w ⟨g5, 3, none⟩ = some (.int .i64 0) := fun p => p.cell (Array.getElem?_eq_some_iff.1 HX8.out).1 (cell_of' HX8.out 3)
              have q4 : ∀ p : BelowBy W8, World.cell? p.w ⟨g5, 4, none⟩ = some (.int .u64 0) := fun p => p.cell (Array.getElem?_eq_some_iff.1 HX8.out).1 (cell_of' HX8.out 4)
              have q5 : ∀ p : BelowBy W8, World.cell? p.w ⟨g5, 5, none⟩ = some (.int .i64 0) := fun p => p.cell (Array.getElem?_eq_some_iff.1 HX8.out).1 (cell_of' HX8.out 5)
              have q6 : ∀ p : BelowBy W8, World.cell? p.w ⟨g5, 6, none⟩ = some (.int .u64 0) := fun p => p.cell (Array.getElem?_eq_some_iff.1 HX8.out).1 (cell_of' HX8.out 6)
              have q7 : ∀ p : BelowBy W8, World.cell? p.w ⟨g5, 7, none⟩ = some (.int .u64 0) := fun p => p.cell (Array.getElem?_eq_some_iff.1 HX8.out).1 (cell_of' HX8.out 7)
              have r0 : ∀ p : BelowBy W8, World.cell? p.w ⟨a8, 0, none⟩ = some (.int .i64 0) := fun p => p.cell (Array.getElem?_eq_some_iff.1 HY8.out).1 (cell_of' HY8.out 0)
              have r1 : ∀ p : BelowBy W8, World.cell? p.w ⟨a8, 1, none⟩ = some (.int .u64 0) := fun p => p.cell (Array.getElem?_eq_some_iff.1 HY8.out).1 (cell_of' HY8.out 1)
              have r2 : ∀ p : BelowBy W8, World.cell? p.w ⟨a8, 2, none⟩ = some (.int .i64 0) := fun p => p.cell (Array.getElem?_eq_some_iff.1 HY8.out).1 (cell_of' HY8.out 2)
              have r3 : ∀ p : BelowBy W8, World.cell? p.w ⟨a8, 3, none⟩ = some (.int .u64 0) := fun p => p.cell (Array.getElem?_eq_some_iff.1 HY8.out).1 (cell_of' HY8.out 3)
              have r4 : ∀ p : BelowBy W8, World.cell? p.w ⟨a8, 4, none⟩ = some (.int .u64 0) := fun p => p.cell (Array.getElem?_eq_some_iff.1 HY8.out).1 (cell_of' HY8.out 4)
              have hrl : (run C (gl.take k)).r.rest.length ≤ 1000 := by
                obtain ⟨rb, mb, sb, wv, rv, hI⟩ := HF8.out
                have := hI.r.le
                have := HC.out.kept
                omega
              obtain ⟨kw, hkw⟩ := words_same (run C (gl.take k)).r.rest (by omega)
              have CW := Lib.hid (show ∀ p : BelowBy W8, Calls Tryd.prog 11 #[.slice Au (run C (gl.take k)).r.rest.length cu, .slice A1 (run C (gl.take k)).r.rest.length c1] p.w fun e w'' => e = .returned (.bool true) ∧ ∃ q : BelowBy W8, w'' = q.w from fun p => calls_bel ((PFlushActs.sprocketref02_Words.calls kw Au cu _ A1 c1 _ true p.w (owns_reads (own_below HU8.out p.hb) (by omega)).2 (own_cap HU8.out) (Kd.C_below HR8.out p.hb) HC5.out hkw).mono fun e w' ⟨he, n, hn⟩ => ⟨he, by rw [hn]; exact below_drewN' _ n⟩))
              clear hX8 hY8 hkw hrl
              refine wp_region_bel (by kernel_rfl) (by kernel_rfl) ?_
              repeat (first | go_big_quiet_step ((go_at_call 11; exact CW.out _)) | quiet_step ((go_at_call 11; exact CW.out _)))
              refine wpQuiet_nil ?_
              intro w9 hw'
              obtain ⟨p9, hp9⟩ := hw'
              have hb9 := p9.hb
              rw [← hp9] at hb9
              have HB9 := Lib.hid (HB8.out.trans (hb9.mono HB8.out.size))
              have HF9 := Lib.hid (HF8.out.below hb9)
              clear hb9 hp9 p9 q2 q3 q4 q5 q6 q7 r0 r1 r2 r3 r4
              by_cases hlt : k < gl.length
              · obtain ⟨gv, hgv⟩ : ∃ gv, gl[k]? = some gv := ⟨_, List.getElem?_eq_getElem hlt⟩
                have hgc := Kd.C_below HG.out HB9.out
                obtain ⟨adG, rfl, _⟩ := hgc.2.2 (by omega)
                have hcell := ws_cells hgc k (.int .u64 gv) (by unfold ws; rw [List.getElem?_map, hgv]; rfl)
                have HGV := Lib.hid hgv
                have hgw := hwg gv (List.mem_of_getElem? hgv)
                have HT := Lib.hid (ftake_any C HC.out ⟨th, ke, se⟩ _ BB k fb _ gv hgw (by omega) HF9.out)
                clear hgc hgv hgw
                go_wp2_with fail
                refine HT.out.mono ?_
                rintro e w10 ⟨rfl, hF10, hb10, _⟩
                have HF10 := Lib.hid hF10
                have HB10 := Lib.hid (HB9.out.trans (hb10.mono HBW.out))
                clear hF10 hb10
                go_wp2_with fail
                go_roundw
                case rel => exact ⟨k + 1, by go_num, by omega, by rw [run_take HGV.out]; exact HF10.out, HB10.out⟩
                case measure => simp [intOf]; omega
              · have hke : k = gl.length := by omega
                have HKE := Lib.hid hke
                clear hke
                go_wp2_with fail
                go_roundw
                case rel => exact ⟨k + 1, by go_num, by omega, by rw [HKE.out, run_over, ← HKE.out]; exact HF9.out.more, HB9.out⟩
                case measure => simp [intOf]; omega
            · have HFA := Lib.hid hfa
              clear hfa
              go_wp2_with fail
              refine (fresult_more C HC.out ⟨th, ke, se⟩ _ BB k fb _ HF5.out _ HFA.out rfl).mono ?_
              rintro e w6 ⟨rfl, hb6⟩
              have HB6 := Lib.hid (HB5.out.trans (hb6.mono HB5.out.size))
              have HF6 := Lib.hid (HF5.out.below hb6)
              have HX6 := Lib.hid ((hb6.block _ (Array.getElem?_eq_some_iff.1 HX5.out).1).trans HX5.out)
              clear hb6
              go_wp2_with fail
              refine (fact_v C HC.out ⟨th, ke, se⟩ _ BB k fb _ HF6.out (some ac) HFA.out).mono ?_
              rintro e w7 ⟨rfl, hb7⟩
              have HB7 := Lib.hid (HB6.out.trans (hb7.mono HB6.out.size))
              have HF7 := Lib.hid (HF6.out.below hb7)
              have HX7 := Lib.hid ((hb7.block _ (Array.getElem?_eq_some_iff.1 HX6.out).1).trans HX6.out)
              clear hb7
              go_wp2_with fail
              generalize hW8 : World.alloc w7 _ = W8
              have hb8 : Below w7.heap.size w7 W8 := by rw [← hW8]; exact (Below.refl _ _).alloc (Nat.le_refl _) _
              have hy8 := (show W8.heap[w7.heap.size]? = some (.cells #[.int .i64 ac.k, .int .u64 ac.b, .int .i64 ac.c, .int .u64 ac.o, .int .u64 ac.n] 31 (0, 0)) from by rw [← hW8]; exact heap_alloc_new w7 _)
              have HB8 := Lib.hid (HB7.out.trans (hb8.mono HB7.out.size))
              have HF8 := Lib.hid (HF7.out.below hb8)
              have HX8 := Lib.hid ((hb8.block _ (Array.getElem?_eq_some_iff.1 HX7.out).1).trans HX7.out)
              generalize w7.heap.size = a8 at hy8 ⊢
              have HY8 := Lib.hid hy8
              clear hb8 hy8 hW8
              have q2 : ∀ p : BelowBy W8, World.cell? p.w ⟨g5, 2, none⟩ = some (.bool true) := fun p => p.cell (Array.getElem?_eq_some_iff.1 HX8.out).1 (cell_of' HX8.out 2)
              have q3 : ∀ p : BelowBy W8, World.cell? p.w ⟨g5, 3, none⟩ = some (.int .i64 ac.k) := fun p => p.cell (Array.getElem?_eq_some_iff.1 HX8.out).1 (cell_of' HX8.out 3)
              have q4 : ∀ p : BelowBy W8, World.cell? p.w ⟨g5, 4, none⟩ = some (.int .u64 ac.b) := fun p => p.cell (Array.getElem?_eq_some_iff.1 HX8.out).1 (cell_of' HX8.out 4)
              have q5 : ∀ p : BelowBy W8, World.cell? p.w ⟨g5, 5, none⟩ = some (.int .i64 ac.c) := fun p => p.cell (Array.getElem?_eq_some_iff.1 HX8.out).1 (cell_of' HX8.out 5)
              have q6 : ∀ p : BelowBy W8, World.cell? p.w ⟨g5, 6, none⟩ = some (.int .u64 ac.o) := fun p => p.cell (Array.getElem?_eq_some_iff.1 HX8.out).1 (cell_of' HX8.out 6)
              have q7 : ∀ p : BelowBy W8, World.cell? p.w ⟨g5, 7, none⟩ = some (.int .u64 ac.n) := fun p => p.cell (Array.getElem?_eq_some_iff.1 HX8.out).1 (cell_of' HX8.out 7)
              have r0 : ∀ p : BelowBy W8, World.cell? p.w ⟨a8, 0, none⟩ = some (.int .i64 ac.k) := fun p => p.cell (Array.getElem?_eq_some_iff.1 HY8.out).1 (cell_of' HY8.out 0)
              have r1 : ∀ p : BelowBy W8, World.cell? p.w ⟨a8, 1, none⟩ = some (.int .u64 ac.b) := fun p => p.cell (Array.getElem?_eq_some_iff.1 HY8.out).1 (cell_of' HY8.out 1)
              have r2 : ∀ p : BelowBy W8, World.cell? p.w ⟨a8, 2, none⟩ = some (.int .i64 ac.c) := fun p => p.cell (Array.getElem?_eq_some_iff.1 HY8.out).1 (cell_of' HY8.out 2)
              have r3 : ∀ p : BelowBy W8, World.cell? p.w ⟨a8, 3, none⟩ = some (.int .u64 ac.o) := fun p => p.cell (Array.getElem?_eq_some_iff.1 HY8.out).1 (cell_of' HY8.out 3)
              have r4 : ∀ p : BelowBy W8, World.cell? p.w ⟨a8, 4, none⟩ = some (.int .u64 ac.n) := fun p => p.cell (Array.getElem?_eq_some_iff.1 HY8.out).1 (cell_of' HY8.out 4)
              refine wp_region_bel (by kernel_rfl) (by kernel_rfl) ?_
              repeat (first | go_big_quiet_step (fail) | quiet_step (fail))
              refine wpQuiet_nil ?_
              intro w9 hw'
              obtain ⟨p9, hp9⟩ := hw'
              have hb9 := p9.hb
              rw [← hp9] at hb9
              have HB9 := Lib.hid (HB8.out.trans (hb9.mono HB8.out.size))
              have HF9 := Lib.hid (HF8.out.below hb9)
              clear hb9 hp9 p9 q2 q3 q4 q5 q6 q7 r0 r1 r2 r3 r4
              by_cases hlt : k < gl.length
              · obtain ⟨gv, hgv⟩ : ∃ gv, gl[k]? = some gv := ⟨_, List.getElem?_eq_getElem hlt⟩
                have hgc := Kd.C_below HG.out HB9.out
                obtain ⟨adG, rfl, _⟩ := hgc.2.2 (by omega)
                have hcell := ws_cells hgc k (.int .u64 gv) (by unfold ws; rw [List.getElem?_map, hgv]; rfl)
                have HGV := Lib.hid hgv
                have hgw := hwg gv (List.mem_of_getElem? hgv)
                have HT := Lib.hid (ftake_any C HC.out ⟨th, ke, se⟩ _ BB k fb _ gv hgw (by omega) HF9.out)
                clear hgc hgv hgw
                go_wp2_with fail
                refine HT.out.mono ?_
                rintro e w10 ⟨rfl, hF10, hb10, _⟩
                have HF10 := Lib.hid hF10
                have HB10 := Lib.hid (HB9.out.trans (hb10.mono HBW.out))
                clear hF10 hb10
                go_wp2_with fail
                go_roundw
                case rel => exact ⟨k + 1, by go_num, by omega, by rw [run_take HGV.out]; exact HF10.out, HB10.out⟩
                case measure => simp [intOf]; omega
              · have hke : k = gl.length := by omega
                have HKE := Lib.hid hke
                clear hke
                go_wp2_with fail
                go_roundw
                case rel => exact ⟨k + 1, by go_num, by omega, by rw [HKE.out, run_over, ← HKE.out]; exact HF9.out.more, HB9.out⟩
                case measure => simp [intOf]; omega
          · go_wp2_with fail
            go_roundw
            case rel => first | exact ⟨1, by omega, rfl, HBI.out⟩ | exact ⟨2, by omega, rfl, HBI.out⟩ | exact ⟨1, by omega, by go_num, HBI.out⟩ | exact ⟨2, by omega, by go_num, HBI.out⟩
            case measure => simp [intOf]
      · obtain ⟨C, hCe⟩ : ∃ C : Cf, C = ⟨d, T, kl, true⟩ := ⟨_, rfl⟩
        have hC : COk C := by rw [hCe]; exact ⟨hT, by show kl.length ≤ 1000; omega, hwk⟩
        have HC := Lib.hid hC
        have HCE := Lib.hid hCe
        have HN := Lib.hid (show Calls Tryd.prog 5 #[.agg #[.int .u64 d, .int .i64 th, .int .i64 T, .int .i64 ke, .int .u64 se], .slice A kl.length cA, .bool true] wr (MkPost C ⟨th, ke, se⟩ wr) from by
          have := fnew_any C hC ⟨th, ke, se⟩ wr A cA (HD.out.below HB.out) (by rw [hCe]; exact hsite) (by rw [hCe]; exact Kd.C_below HK.out HB.out)
          rw [hCe] at this ⊢
          exact this)
        have HFL := Lib.hid (fun k => flush_on (C := C) (gs := gl.take k) (by rw [hCe]; show kl.length < 1000000000; omega) hC.th.1 hC.th.2 (by rw [List.length_take]; omega) (fun g hg => hwg g (List.mem_of_mem_take hg)) th ke se)
        clear hC hCe
        go_wp2_with fail
        refine HN.out.mono ?_
        rintro e w1 ⟨fb, rfl, hF1, hb1⟩
        have HB1 := Lib.hid (HB.out.trans (hb1.mono HB.out.size))
        have HF1 := Lib.hid hF1
        have HBW := Lib.hid HB.out.size
        have hl1 : w.heap.size < w1.heap.size := by have := hb1.size; omega
        have hx1 := (HB1.out.block _ hlb).trans HX0.out
        have q0 := cell_of' hx1 0
        have q1 := cell_of' hx1 1
        have q2 := cell_of' hx1 2
        have q3 := cell_of' hx1 3
        have q4 := cell_of' hx1 4
        simp only [List.getElem?_toArray, List.getElem?_cons_succ, List.getElem?_cons_zero] at q0 q1 q2 q3 q4
        clear hF1 hb1 hx1 s0 s1 s2 s3 s4
        go_wp2_with fail
        refine (HRR.out _).mono ?_
        rintro e w2 ⟨rfl, hb2⟩
        have HB2 := Lib.hid (HB1.out.trans (hb2.mono HB1.out.size))
        have HF2 := Lib.hid (HF1.out.below hb2)
        clear hb2 q0 q1 q2 q3 q4 hl1
        generalize wr.heap.size = BB at HBW HF1 HF2
        obtain ⟨wo, hwo⟩ : ∃ wo : World, wo = wr := ⟨_, rfl⟩
        clear hlr
        go_wp2_with fail
        go_loopw [13] (fun j wi => ∃ k : Nat, j = .int .i64 k ∧ InL C ⟨th, ke, se⟩ BB gl fb w0 wi k) (fun j _ => gl.length + 1 - (intOf j).toNat)
        case atStart => exact ⟨0, rfl, Nat.zero_le _, HF2.out, HB2.out⟩
        case round =>
          obtain ⟨k, rfl, hkl, hF, hBi⟩ := hrel
          have HF := Lib.hid hF
          have HBI := Lib.hid hBi
          clear hF hBi
          by_cases hkk : k ≤ gl.length
          · have hxi := (HBI.out.block _ hlb).trans HX0.out
            have hli : w.heap.size < wr.heap.size := by have := HBI.out.size; omega
            have s0 := cell_of' hxi 0
            have s1 := cell_of' hxi 1
            have s2 := cell_of' hxi 2
            have s3 := cell_of' hxi 3
            have s4 := cell_of' hxi 4
            simp only [List.getElem?_toArray, List.getElem?_cons_succ, List.getElem?_cons_zero] at s0 s1 s2 s3 s4
            obtain ⟨over, ac, l, hcase, hcall⟩ := flush_call HC.out (th := th) (ke := ke) (se := se) (cG := cG) hkk (by omega) hwg HBI.out (by rw [HCE.out]; exact HK.out) (by rw [HCE.out]; exact hcA) HG.out
            have HCL := Lib.hid (show Calls Tryd.prog 10 #[.pointer (some ⟨wr.heap.size, 0, none⟩), .agg #[.int .u64 d, .int .i64 th, .int .i64 T, .int .i64 ke, .int .u64 se], .slice A kl.length cA, .bool true] (wr.alloc (.cells #[.slice G k cG, .int .i64 0, .bool false, .int .i64 0, .int .u64 0, .int .i64 0, .int .u64 0, .int .u64 0] 39)) (TPd w0 wr over ac l) from by
              rw [HCE.out] at hcall
              exact hcall)
            clear hcall hxi
            have j0 : (0 : Int) ≤ (k : Int) := by omega
            have j1 : (k : Int) ≤ (cG : Int) := by omega
            have j2 : (k : Int) ≤ 110 := by omega
            go_wp2_with fail
            refine HCL.out.mono ?_
            rintro e w5 ⟨A1, c1, A0, c0, n0, p0, rfl, hc1, hr1, hx5, hb5, hbb5⟩
            have HB5 := Lib.hid hbb5
            have HX5 := Lib.hid hx5
            have HR5 := Lib.hid hr1
            have HC5 := Lib.hid hc1
            have HF5 := Lib.hid (HF.out.below hb5)
            generalize wr.heap.size = g5 at hx5 HX5
            clear hr1 hx5 hb5 hbb5 s0 s1 s2 s3 s4 hli
            rcases hcase with ⟨rfl, rfl, rfl, hfa⟩ | ⟨rfl, hfa⟩
            · have HFA := Lib.hid hfa
              clear hfa
              go_wp2_with fail
              refine (fresult_done C HC.out ⟨th, ke, se⟩ _ BB k fb _ HF5.out HFA.out).mono ?_
              rintro e w6 ⟨u, rfl, hu, hb6⟩
              obtain ⟨Au, cu, rfl⟩ := own_form hu
              have HB6 := Lib.hid (HB5.out.trans (hb6.mono HB5.out.size))
              have HF6 := Lib.hid (HF5.out.below hb6)
              have HX6 := Lib.hid ((hb6.block _ (Array.getElem?_eq_some_iff.1 HX5.out).1).trans HX5.out)
              have HR6 := Lib.hid (Kd.C_below HR5.out hb6)
              have HU6 := Lib.hid hu
              clear hu hb6
              go_wp2_with fail
              refine (fact_v C HC.out ⟨th, ke, se⟩ _ BB k fb _ HF6.out none HFA.out).mono ?_
              rintro e w7 ⟨rfl, hb7⟩
              have HB7 := Lib.hid (HB6.out.trans (hb7.mono HB6.out.size))
              have HF7 := Lib.hid (HF6.out.below hb7)
              have HX7 := Lib.hid ((hb7.block _ (Array.getElem?_eq_some_iff.1 HX6.out).1).trans HX6.out)
              have HR7 := Lib.hid (Kd.C_below HR6.out hb7)
              have HU7 := Lib.hid (own_below HU6.out hb7)
              clear hb7
              go_wp2_with fail
              generalize hW8 : World.alloc w7 _ = W8
              have hb8 : Below w7.heap.size w7 W8 := by rw [← hW8]; exact (Below.refl _ _).alloc (Nat.le_refl _) _
              have hy8 := (show W8.heap[w7.heap.size]? = some (.cells #[.int .i64 Ac.zero.k, .int .u64 Ac.zero.b, .int .i64 Ac.zero.c, .int .u64 Ac.zero.o, .int .u64 Ac.zero.n] 31 (0, 0)) from by rw [← hW8]; exact heap_alloc_new w7 _)
              have HB8 := Lib.hid (HB7.out.trans (hb8.mono HB7.out.size))
              have HF8 := Lib.hid (HF7.out.below hb8)
              have HX8 := Lib.hid ((hb8.block _ (Array.getElem?_eq_some_iff.1 HX7.out).1).trans HX7.out)
              have HR8 := Lib.hid (Kd.C_below HR7.out hb8)
              have HU8 := Lib.hid (own_below HU7.out hb8)
              generalize w7.heap.size = a8 at hy8 ⊢
              have HY8 := Lib.hid hy8
              clear hb8 hy8 hW8
              have hX8 := HX8.out
              have hY8 := HY8.out
              have q2 : ∀ p : BelowBy W8, World.cell? p.w ⟨g5, 2, none⟩ = some (.bool false) := fun p => p.cell (Array.getElem?_eq_some_iff.1 HX8.out).1 (cell_of' HX8.out 2)
              have q3 : ∀ p : BelowBy W8, World.cell? p.w ⟨g5, 3, none⟩ = some (.int .i64 0) := fun p => p.cell (Array.getElem?_eq_some_iff.1 HX8.out).1 (cell_of' HX8.out 3)
              have q4 : ∀ p : BelowBy W8, World.cell? p.w ⟨g5, 4, none⟩ = some (.int .u64 0) := fun p => p.cell (Array.getElem?_eq_some_iff.1 HX8.out).1 (cell_of' HX8.out 4)
              have q5 : ∀ p : BelowBy W8, World.cell? p.w ⟨g5, 5, none⟩ = some (.int .i64 0) := fun p => p.cell (Array.getElem?_eq_some_iff.1 HX8.out).1 (cell_of' HX8.out 5)
              have q6 : ∀ p : BelowBy W8, World.cell? p.w ⟨g5, 6, none⟩ = some (.int .u64 0) := fun p => p.cell (Array.getElem?_eq_some_iff.1 HX8.out).1 (cell_of' HX8.out 6)
              have q7 : ∀ p : BelowBy W8, World.cell? p.w ⟨g5, 7, none⟩ = some (.int .u64 0) := fun p => p.cell (Array.getElem?_eq_some_iff.1 HX8.out).1 (cell_of' HX8.out 7)
              have r0 : ∀ p : BelowBy W8, World.cell? p.w ⟨a8, 0, none⟩ = some (.int .i64 0) := fun p => p.cell (Array.getElem?_eq_some_iff.1 HY8.out).1 (cell_of' HY8.out 0)
              have r1 : ∀ p : BelowBy W8, World.cell? p.w ⟨a8, 1, none⟩ = some (.int .u64 0) := fun p => p.cell (Array.getElem?_eq_some_iff.1 HY8.out).1 (cell_of' HY8.out 1)
              have r2 : ∀ p : BelowBy W8, World.cell? p.w ⟨a8, 2, none⟩ = some (.int .i64 0) := fun p => p.cell (Array.getElem?_eq_some_iff.1 HY8.out).1 (cell_of' HY8.out 2)
              have r3 : ∀ p : BelowBy W8, World.cell? p.w ⟨a8, 3, none⟩ = some (.int .u64 0) := fun p => p.cell (Array.getElem?_eq_some_iff.1 HY8.out).1 (cell_of' HY8.out 3)
              have r4 : ∀ p : BelowBy W8, World.cell? p.w ⟨a8, 4, none⟩ = some (.int .u64 0) := fun p => p.cell (Array.getElem?_eq_some_iff.1 HY8.out).1 (cell_of' HY8.out 4)
              have hrl : (run C (gl.take k)).r.rest.length ≤ 1000 := by
                obtain ⟨rb, mb, sb, wv, rv, hI⟩ := HF8.out
                have := hI.r.le
                have := HC.out.kept
                omega
              obtain ⟨kw, hkw⟩ := words_same (run C (gl.take k)).r.rest (by omega)
              have CW := Lib.hid (show ∀ p : BelowBy W8, Calls Tryd.prog 11 #[.slice Au (run C (gl.take k)).r.rest.length cu, .slice A1 (run C (gl.take k)).r.rest.length c1] p.w fun e w'' => e = .returned (.bool true) ∧ ∃ q : BelowBy W8, w'' = q.w from fun p => calls_bel ((PFlushActs.sprocketref02_Words.calls kw Au cu _ A1 c1 _ true p.w (owns_reads (own_below HU8.out p.hb) (by omega)).2 (own_cap HU8.out) (Kd.C_below HR8.out p.hb) HC5.out hkw).mono fun e w' ⟨he, n, hn⟩ => ⟨he, by rw [hn]; exact below_drewN' _ n⟩))
              clear hX8 hY8 hkw hrl
              refine wp_region_bel (by kernel_rfl) (by kernel_rfl) ?_
              repeat (first | go_big_quiet_step ((go_at_call 11; exact CW.out _)) | quiet_step ((go_at_call 11; exact CW.out _)))
              refine wpQuiet_nil ?_
              intro w9 hw'
              obtain ⟨p9, hp9⟩ := hw'
              have hb9 := p9.hb
              rw [← hp9] at hb9
              have HB9 := Lib.hid (HB8.out.trans (hb9.mono HB8.out.size))
              have HF9 := Lib.hid (HF8.out.below hb9)
              clear hb9 hp9 p9 q2 q3 q4 q5 q6 q7 r0 r1 r2 r3 r4
              by_cases hlt : k < gl.length
              · obtain ⟨gv, hgv⟩ : ∃ gv, gl[k]? = some gv := ⟨_, List.getElem?_eq_getElem hlt⟩
                have hgc := Kd.C_below HG.out HB9.out
                obtain ⟨adG, rfl, _⟩ := hgc.2.2 (by omega)
                have hcell := ws_cells hgc k (.int .u64 gv) (by unfold ws; rw [List.getElem?_map, hgv]; rfl)
                have HGV := Lib.hid hgv
                have hgw := hwg gv (List.mem_of_getElem? hgv)
                have HT := Lib.hid (ftake_any C HC.out ⟨th, ke, se⟩ _ BB k fb _ gv hgw (by omega) HF9.out)
                clear hgc hgv hgw
                go_wp2_with fail
                refine HT.out.mono ?_
                rintro e w10 ⟨rfl, hF10, hb10, _⟩
                have HF10 := Lib.hid hF10
                have HB10 := Lib.hid (HB9.out.trans (hb10.mono HBW.out))
                clear hF10 hb10
                go_wp2_with fail
                go_roundw
                case rel => exact ⟨k + 1, by go_num, by omega, by rw [run_take HGV.out]; exact HF10.out, HB10.out⟩
                case measure => simp [intOf]; omega
              · have hke : k = gl.length := by omega
                have HKE := Lib.hid hke
                clear hke
                go_wp2_with fail
                go_roundw
                case rel => exact ⟨k + 1, by go_num, by omega, by rw [HKE.out, run_over, ← HKE.out]; exact HF9.out.more, HB9.out⟩
                case measure => simp [intOf]; omega
            · have HFA := Lib.hid hfa
              clear hfa
              go_wp2_with fail
              refine (fresult_more C HC.out ⟨th, ke, se⟩ _ BB k fb _ HF5.out _ HFA.out rfl).mono ?_
              rintro e w6 ⟨rfl, hb6⟩
              have HB6 := Lib.hid (HB5.out.trans (hb6.mono HB5.out.size))
              have HF6 := Lib.hid (HF5.out.below hb6)
              have HX6 := Lib.hid ((hb6.block _ (Array.getElem?_eq_some_iff.1 HX5.out).1).trans HX5.out)
              clear hb6
              go_wp2_with fail
              refine (fact_v C HC.out ⟨th, ke, se⟩ _ BB k fb _ HF6.out (some ac) HFA.out).mono ?_
              rintro e w7 ⟨rfl, hb7⟩
              have HB7 := Lib.hid (HB6.out.trans (hb7.mono HB6.out.size))
              have HF7 := Lib.hid (HF6.out.below hb7)
              have HX7 := Lib.hid ((hb7.block _ (Array.getElem?_eq_some_iff.1 HX6.out).1).trans HX6.out)
              clear hb7
              go_wp2_with fail
              generalize hW8 : World.alloc w7 _ = W8
              have hb8 : Below w7.heap.size w7 W8 := by rw [← hW8]; exact (Below.refl _ _).alloc (Nat.le_refl _) _
              have hy8 := (show W8.heap[w7.heap.size]? = some (.cells #[.int .i64 ac.k, .int .u64 ac.b, .int .i64 ac.c, .int .u64 ac.o, .int .u64 ac.n] 31 (0, 0)) from by rw [← hW8]; exact heap_alloc_new w7 _)
              have HB8 := Lib.hid (HB7.out.trans (hb8.mono HB7.out.size))
              have HF8 := Lib.hid (HF7.out.below hb8)
              have HX8 := Lib.hid ((hb8.block _ (Array.getElem?_eq_some_iff.1 HX7.out).1).trans HX7.out)
              generalize w7.heap.size = a8 at hy8 ⊢
              have HY8 := Lib.hid hy8
              clear hb8 hy8 hW8
              have q2 : ∀ p : BelowBy W8, World.cell? p.w ⟨g5, 2, none⟩ = some (.bool true) := fun p => p.cell (Array.getElem?_eq_some_iff.1 HX8.out).1 (cell_of' HX8.out 2)
              have q3 : ∀ p : BelowBy W8, World.cell? p.w ⟨g5, 3, none⟩ = some (.int .i64 ac.k) := fun p => p.cell (Array.getElem?_eq_some_iff.1 HX8.out).1 (cell_of' HX8.out 3)
              have q4 : ∀ p : BelowBy W8, World.cell? p.w ⟨g5, 4, none⟩ = some (.int .u64 ac.b) := fun p => p.cell (Array.getElem?_eq_some_iff.1 HX8.out).1 (cell_of' HX8.out 4)
              have q5 : ∀ p : BelowBy W8, World.cell? p.w ⟨g5, 5, none⟩ = some (.int .i64 ac.c) := fun p => p.cell (Array.getElem?_eq_some_iff.1 HX8.out).1 (cell_of' HX8.out 5)
              have q6 : ∀ p : BelowBy W8, World.cell? p.w ⟨g5, 6, none⟩ = some (.int .u64 ac.o) := fun p => p.cell (Array.getElem?_eq_some_iff.1 HX8.out).1 (cell_of' HX8.out 6)
              have q7 : ∀ p : BelowBy W8, World.cell? p.w ⟨g5, 7, none⟩ = some (.int .u64 ac.n) := fun p => p.cell (Array.getElem?_eq_some_iff.1 HX8.out).1 (cell_of' HX8.out 7)
              have r0 : ∀ p : BelowBy W8, World.cell? p.w ⟨a8, 0, none⟩ = some (.int .i64 ac.k) := fun p => p.cell (Array.getElem?_eq_some_iff.1 HY8.out).1 (cell_of' HY8.out 0)
              have r1 : ∀ p : BelowBy W8, World.cell? p.w ⟨a8, 1, none⟩ = some (.int .u64 ac.b) := fun p => p.cell (Array.getElem?_eq_some_iff.1 HY8.out).1 (cell_of' HY8.out 1)
              have r2 : ∀ p : BelowBy W8, World.cell? p.w ⟨a8, 2, none⟩ = some (.int .i64 ac.c) := fun p => p.cell (Array.getElem?_eq_some_iff.1 HY8.out).1 (cell_of' HY8.out 2)
              have r3 : ∀ p : BelowBy W8, World.cell? p.w ⟨a8, 3, none⟩ = some (.int .u64 ac.o) := fun p => p.cell (Array.getElem?_eq_some_iff.1 HY8.out).1 (cell_of' HY8.out 3)
              have r4 : ∀ p : BelowBy W8, World.cell? p.w ⟨a8, 4, none⟩ = some (.int .u64 ac.n) := fun p => p.cell (Array.getElem?_eq_some_iff.1 HY8.out).1 (cell_of' HY8.out 4)
              refine wp_region_bel (by kernel_rfl) (by kernel_rfl) ?_
              repeat (first | go_big_quiet_step (fail) | quiet_step (fail))
              refine wpQuiet_nil ?_
              intro w9 hw'
              obtain ⟨p9, hp9⟩ := hw'
              have hb9 := p9.hb
              rw [← hp9] at hb9
              have HB9 := Lib.hid (HB8.out.trans (hb9.mono HB8.out.size))
              have HF9 := Lib.hid (HF8.out.below hb9)
              clear hb9 hp9 p9 q2 q3 q4 q5 q6 q7 r0 r1 r2 r3 r4
              by_cases hlt : k < gl.length
              · obtain ⟨gv, hgv⟩ : ∃ gv, gl[k]? = some gv := ⟨_, List.getElem?_eq_getElem hlt⟩
                have hgc := Kd.C_below HG.out HB9.out
                obtain ⟨adG, rfl, _⟩ := hgc.2.2 (by omega)
                have hcell := ws_cells hgc k (.int .u64 gv) (by unfold ws; rw [List.getElem?_map, hgv]; rfl)
                have HGV := Lib.hid hgv
                have hgw := hwg gv (List.mem_of_getElem? hgv)
                have HT := Lib.hid (ftake_any C HC.out ⟨th, ke, se⟩ _ BB k fb _ gv hgw (by omega) HF9.out)
                clear hgc hgv hgw
                go_wp2_with fail
                refine HT.out.mono ?_
                rintro e w10 ⟨rfl, hF10, hb10, _⟩
                have HF10 := Lib.hid hF10
                have HB10 := Lib.hid (HB9.out.trans (hb10.mono HBW.out))
                clear hF10 hb10
                go_wp2_with fail
                go_roundw
                case rel => exact ⟨k + 1, by go_num, by omega, by rw [run_take HGV.out]; exact HF10.out, HB10.out⟩
                case measure => simp [intOf]; omega
              · have hke : k = gl.length := by omega
                have HKE := Lib.hid hke
                clear hke
                go_wp2_with fail
                go_roundw
                case rel => exact ⟨k + 1, by go_num, by omega, by rw [HKE.out, run_over, ← HKE.out]; exact HF9.out.more, HB9.out⟩
                case measure => simp [intOf]; omega
          · go_wp2_with fail
            go_roundw
            case rel => first | exact ⟨1, by omega, rfl, HBI.out⟩ | exact ⟨2, by omega, rfl, HBI.out⟩ | exact ⟨1, by omega, by go_num, HBI.out⟩ | exact ⟨2, by omega, by go_num, HBI.out⟩
            case measure => simp [intOf]

    · go_wp2_with fail
      refine (AW.out _ HB.out).mono ?_
      rintro e w1 ⟨rfl, hb1⟩
      have HB1 := Lib.hid (HB.out.trans (hb1.mono HB.out.size))
      clear hb1
      go_wp2_with fail
      go_ret
      exact ⟨rfl, HB0.out.trans (HB1.out.mono (Nat.le_of_lt hlb))⟩
end Go.Proofs.YtkoebhflbhpfnaaDoor.Fl
namespace Go.Proofs.YtkoebhflbhpfnaaDoor.Og
open Go.ChangeShapes Go.WideShapes Go.Deep Go.RowKit
set_option linter.unusedVariables false
set_option linter.unusedSimpArgs false
section
variable {H : Type} {enc : TypeId × Value → H} {P : Program} {W : World} {base : Nat} {spare : Nat → Bool} {held : Bool}
theorem spot_none {a : Addr} {v : Value} (h : W.cell? a = some v) : a.spot = none := by
  unfold World.cell? at h
  split at h
  · split at h
    · cases h
    · rename_i hs
      simpa using hs
  · cases h
/-- A struct by value: its fields, a cell each. -/
theorem open_agg {t : TypeId} {fs : Array Field} {r : Reach} {b0 : Nat} {v : Value} {d : DataW H} {ps : List MemPlace} (hs : P.underlying t = some (.struct fs))
    (hone : oneCellFields P fs = true) (hC : P.cellsOf t = fs.size) (hval : Value.okWide P W r b0 t v) (h : DataW.Trod enc P W base spare held t v d ps) :
    ∃ cs : Array Value, v = .agg cs ∧ cs.size = fs.size ∧ ∀ (j : Nat) (f : Field), fs[j]? = some f → ∃ (u : Value) (y : DataW H × List MemPlace) (n : Nat), cs[j]? = some u ∧ DataW.trod enc P W base spare held n f.type [u] = some y := by
  obtain ⟨cs, rfl, hsz⟩ := okWide_struct hs hval
  obtain ⟨fuel, h⟩ := h
  have hcs : cs.size = fs.size := hsz.trans hC
  refine ⟨cs, rfl, hcs, fun j f hj => ?_⟩
  obtain ⟨ys, n, _, _, _, hyl, hf⟩ := DataW.trod_struct hs h
  obtain ⟨ho, hk⟩ := hone_of hone j f hj
  have hjl : j < fs.size := (Array.getElem?_eq_some_iff.1 hj).1
  have h1 := hf j f hj
  rw [ho, hk] at h1
  have hone' : ((Value.agg cs).cells.toList.drop j).take 1 = [cs[j]'(by omega)] := by
    show (cs.toList.drop j).take 1 = _
    rw [List.drop_eq_getElem_cons (by simp; omega)]
    rfl
  rw [hone', List.getElem?_eq_getElem (by omega)] at h1
  exact ⟨_, _, _, Array.getElem?_eq_getElem (by omega), h1⟩
theorem cell_str {t : TypeId} (ht : P.underlying t = some .string) {u : Value} {n : Nat} {y : DataW H × List MemPlace} (h : DataW.trod enc P W base spare held n t [u] = some y) : ∃ s : ByteArray, u = .string s ∧ s.size ≤ maxLen := by
  obtain ⟨s, hs, _, hl⟩ := DataW.trod_string ht h
  simp only [List.cons.injEq, and_true] at hs
  exact ⟨s, hs, hl⟩
theorem cell_int {t : TypeId} {k : IntKind} (ht : P.underlying t = some (.int k)) {u : Value} {n : Nat} {y : DataW H × List MemPlace} (h : DataW.trod enc P W base spare held n t [u] = some y) : ∃ z : Int, u = .int k z ∧ (Lit.int k z).wf = true := by
  obtain ⟨s, hs, _, hl⟩ := DataW.trod_int ht h
  simp only [List.cons.injEq, and_true] at hs
  exact ⟨s, hs, hl⟩
theorem cell_bool {t : TypeId} (ht : P.underlying t = some .bool) {u : Value} {n : Nat} {y : DataW H × List MemPlace} (h : DataW.trod enc P W base spare held n t [u] = some y) : ∃ b : Bool, u = .bool b := by
  obtain ⟨b, hs, _⟩ := DataW.trod_bool ht h
  simp only [List.cons.injEq, and_true] at hs
  exact ⟨b, hs⟩
theorem list_of {α : Type} {len : Nat} {p : Nat → α → Prop} (h : ∀ i, i < len → ∃ x, p i x) : ∃ l : List α, l.length = len ∧ ∀ j x, l[j]? = some x → p j x := by
  induction len with
  | zero => exact ⟨[], rfl, fun j x hx => by simp at hx⟩
  | succ n ih =>
    obtain ⟨l, hl, hp⟩ := ih fun i hi => h i (by omega)
    obtain ⟨x, hx⟩ := h n (by omega)
    refine ⟨l ++ [x], by simp [hl], fun j y hy => ?_⟩
    by_cases hj : j < n
    · rw [List.getElem?_append_left (by omega)] at hy
      exact hp j y hy
    · rw [List.getElem?_append_right (by omega)] at hy
      have : j = n := by
        have := (List.getElem?_eq_some_iff.1 hy).1
        simp at this
        omega
      subst this
      rw [hl, Nat.sub_self] at hy
      simp at hy
      subst hy
      exact hx
/-- Every element, as its cells. -/
theorem open_rows_of {t e : TypeId} {C fuel : Nat} {v : Value} {x : DataW H × List MemPlace} (ht : P.underlying t = some (.slice e)) (hC : P.cellsOf e = C) (hpos : 0 < C) (h : DataW.trod enc P W base spare held fuel t [v] = some x) :
    ∃ (A : Option Addr) (len cap : Nat), v = .slice A len cap ∧ len ≤ cap ∧ cap ≤ maxLen ∧ (A = none → cap = 0) ∧ ∀ i, i < len → ∃ (b o : Nat) (cs : List Value) (n : Nat) (y : DataW H × List MemPlace), A = some ⟨b, o, none⟩ ∧ cs.length = C ∧
      (∀ k u, cs[k]? = some u → W.cell? ⟨b, o + i * C + k, none⟩ = some u) ∧ DataW.trod enc P W base spare held n e cs = some y := by
  rcases open_slice ht h with ⟨h0, _⟩ | ⟨a, len', cap', m, n, D, Pl, hcs, hb, hl, hm, hmm, hx, hi⟩
  · simp only [List.cons.injEq, and_true] at h0
    subst h0
    exact ⟨none, 0, 0, rfl, Nat.le_refl _, by unfold maxLen; omega, fun _ => rfl, fun i hi => by omega⟩
  · simp only [List.cons.injEq, and_true] at hcs
    subst hcs
    have hlm : len' ≤ m := by rw [hmm]; split <;> omega
    refine ⟨some a, len', cap', rfl, hl, hm, fun h => (by cases h), fun i hi' => ?_⟩
    obtain ⟨cs', hc, ht'⟩ := hi i (by omega)
    rw [hC] at hc
    obtain ⟨_, hcl, hat⟩ := World.cells?_some hc
    have hcell : ∀ k u, cs'[k]? = some u → W.cell? (a.add (i * C + k)) = some u := by
      intro k u hk
      have hkl := (List.getElem?_eq_some_iff.1 hk).1
      have := hat k (by omega)
      rw [add_add, hk] at this
      exact this
    have h0 : a.spot = none := by
      obtain ⟨cs0, hc0, _⟩ := hi 0 (by omega)
      rw [hC] at hc0
      obtain ⟨_, hcl0, hat0⟩ := World.cells?_some hc0
      have := hat0 0 hpos
      rw [List.getElem?_eq_getElem (by omega), Nat.zero_mul] at this
      exact spot_none this
    obtain ⟨b, o, sp⟩ := a
    cases h0
    refine ⟨b, o, cs', _, _, rfl, hcl, fun k u hk => ?_, ht'⟩
    have := hcell k u hk
    have e : (⟨b, o, none⟩ : Addr).add (i * C + k) = ⟨b, o + i * C + k, none⟩ := by
      unfold Addr.add
      split
      · rename_i hz; rw [Nat.add_assoc, hz]; rfl
      · rw [Nat.add_assoc]
    rwa [e] at this
/-- A struct of two ints that reads as a known datum. -/
theorem two_ints {t e : TypeId} {fs : Array Field} {f0 f1 : Field} {fuel : Nat} {cs : List Value} {k : IntKind} {a b : Int} {p : List MemPlace} (ht : P.underlying t = some (.struct fs)) (hfs : fs = #[f0, f1]) (ho0 : f0.offset = 0) (ho1 : f1.offset = 1)
    (he0 : f0.type = e) (he1 : f1.type = e) (hu : P.underlying e = some (.int k)) (hc : P.cellsOf e = 1) (hct : P.cellsOf t = 2)
    (h : DataW.trod enc P W base spare held fuel t cs = some (.agg [.lit (.int k a), .lit (.int k b)], p)) : cs = [.int k a, .int k b] := by
  obtain ⟨xs, n, _, hx, hl, hxl, hf⟩ := DataW.trod_struct ht h
  subst hfs
  have h0 := hf 0 f0 rfl
  have h1 := hf 1 f1 rfl
  rw [ho0, he0, hc] at h0
  rw [ho1, he1, hc] at h1
  rw [hct] at hl
  injection hx with hx _
  injection hx with hx
  match xs, hxl, hx with
  | [x0, x1], _, hx =>
    simp at hx
    match cs, hl with
    | [c0, c1], _ =>
      simp at h0 h1
      obtain ⟨z0, e0, d0, _⟩ := DataW.trod_int hu h0
      obtain ⟨z1, e1, d1, _⟩ := DataW.trod_int hu h1
      have hx0 := hx.1
      have hx1 := hx.2
      rw [d0] at hx0
      rw [d1] at hx1
      simp at hx0 hx1 e0 e1
      rw [e0, e1, ← hx0, ← hx1]
end
end Go.Proofs.YtkoebhflbhpfnaaDoor.Og
namespace Go.Proofs.YtkoebhflbhpfnaaDoor.FlTab
open Go.RowKit Fl Og Go.ChangeShapes Go.WideShapes Go.Deep Go.Proofs.YtkoebhflbhpfnaaDoorW.PrintWords Go.Proofs.YtkoebhflbhpfnaaDoorW.PrintLast Go.Proofs.YtkoebhflbhpfnaaDoorW.PrintMore
set_option linter.unusedVariables false
set_option linter.unusedSimpArgs false
theorem gb : Tryd.prog.globalNamed "sprocket/desk.bounds" = some 0 := by kernel_rfl
theorem tb : (Tryd.prog.globals[0]?).map (·.type) = some 74 := by kernel_rfl
theorem uB : Tryd.prog.underlying 74 = some (.array 2 73) := by kernel_rfl
theorem cB : Tryd.prog.cellsOf 73 = 2 := by kernel_rfl
theorem cAB : Tryd.prog.cellsOf 74 = 4 := by kernel_rfl
theorem cI : Tryd.prog.cellsOf 3 = 1 := by kernel_rfl
theorem dk_of_reads {W : World} (h : Lib.VarReads Tryd.prog W "sprocket/desk.bounds" Rows.laid_sprocket_desk_bounds) : Dk W := by
  obtain ⟨g, t, cs, fuel, p, h1, h2, h3, h4⟩ := h
  obtain rfl := Option.some.inj (gb.symm.trans h1)
  obtain rfl := Option.some.inj (tb.symm.trans h2)
  obtain ⟨xs, m, _, hx, hl, hxl, hf⟩ := DataW.trod_array uB h4
  rw [cAB] at hl
  rw [cB] at hf
  have f0 := hf 0 (by omega)
  have f1 := hf 1 (by omega)
  unfold Rows.laid_sprocket_desk_bounds at hx
  injection hx with hx _
  injection hx with hx
  have hcs : cs.toList = [.int .i64 1, .int .i64 64, .int .i64 1, .int .i64 64] := by
    match xs, hxl, hx, f0, f1 with
    | [x0, x1], _, hx, f0, f1 =>
      obtain ⟨d0, p0⟩ := x0
      obtain ⟨d1, p1⟩ := x1
      simp at hx
      obtain ⟨hx0, hx1⟩ := hx
      subst hx0
      subst hx1
      generalize cs.toList = l at *
      match l, hl with
      | [c0, c1, c2, c3], _ =>
        simp at f0 f1
        have e0 := two_ints (k := .i64) Tryd.underlying73 rfl rfl rfl rfl rfl Tryd.underlying3 cI cB f0
        have e1 := two_ints (k := .i64) Tryd.underlying73 rfl rfl rfl rfl rfl Tryd.underlying3 cI cB f1
        simp at e0 e1
        rw [e0.1, e0.2, e1.1, e1.2]
  have cell : ∀ i v, ([.int .i64 1, .int .i64 64, .int .i64 1, .int .i64 64] : List Value)[i]? = some v → W.cell? ⟨0, i, none⟩ = some v := by
    intro i v hv
    have := World.var?_cell gb h3 i
    rw [this, ← Array.getElem?_toList, hcs]
    exact hv
  exact ⟨World.block_lt_of_cell? W _ (cell 0 _ rfl), cell 0 _ rfl, cell 1 _ rfl, cell 2 _ rfl, cell 3 _ rfl⟩
abbrev flushLaid : List (String × DataW Unit) := [("sprocket/desk.bounds", Rows.laid_sprocket_desk_bounds)]
theorem dk_of_laid {W : World} (h : laidMet Tryd.prog flushLaid W) : Dk W := dk_of_reads (Lib.laidMet.reads h (by simp [flushLaid]))
/-- A world that meets the condition: the settled one, the table's cells laid. -/
noncomputable def laidWorld (os : Os) : World :=
  let w0 := World.holding Tryd.prog os ⟨#[], #[], []⟩
  { w0 with heap := w0.heap.modify 0 fun
      | .cells _ t frozen => .cells #[.int .i64 1, .int .i64 64, .int .i64 1, .int .i64 64] t frozen
      | o => o }
theorem laid_met (os : Os) (args : Array Value) : laidMet Tryd.prog flushLaid ((laidWorld os).forCall (fun _ _ => 0) ⟨#[], args, []⟩).memory :=
  laidMet_of_run3 8 (by kernel_rfl) (by kernel_rfl) (by kernel_rfl)
/-- A site, as it comes. -/
structure SiteV where
  d : Int
  th : Int
  ts : Int
  ke : Int
  se : Int
set_option maxRecDepth 100000 in
theorem open_site {H : Type} {enc : TypeId × Value → H} {W : World} {base : Nat} {spare : Nat → Bool} {held : Bool} {r : Reach} {b0 : Nat} {v : Value} {d : DataW H} {ps : List MemPlace} (hval : Value.okWide Tryd.prog W r b0 24 v)
    (h : DataW.Trod enc Tryd.prog W base spare held 24 v d ps) : ∃ s : SiteV, v = encS s.d s.th s.ts s.ke s.se ∧ 0 ≤ s.d := by
  obtain ⟨cs, rfl, hsz, hf⟩ := open_agg Tryd.underlying24 (by kernel_rfl) (by kernel_rfl) hval h
  obtain ⟨u0, y0, n0, e0, t0⟩ := hf 0 _ rfl
  obtain ⟨u1, y1, n1, e1, t1⟩ := hf 1 _ rfl
  obtain ⟨u2, y2, n2, e2, t2⟩ := hf 2 _ rfl
  obtain ⟨u3, y3, n3, e3, t3⟩ := hf 3 _ rfl
  obtain ⟨u4, y4, n4, e4, t4⟩ := hf 4 _ rfl
  obtain ⟨z0, rfl, w0⟩ := cell_int Tryd.underlying22 t0
  obtain ⟨z1, rfl, _⟩ := cell_int Tryd.underlying3 t1
  obtain ⟨z2, rfl, _⟩ := cell_int Tryd.underlying3 t2
  obtain ⟨z3, rfl, _⟩ := cell_int Tryd.underlying3 t3
  obtain ⟨z4, rfl, _⟩ := cell_int Tryd.underlying22 t4
  refine ⟨⟨z0, z1, z2, z3, z4⟩, ?_, ?_⟩
  · unfold encS
    congr 1
    apply Array.ext_getElem?
    intro i
    match i with
    | 0 => exact e0
    | 1 => exact e1
    | 2 => exact e2
    | 3 => exact e3
    | 4 => exact e4
    | i + 5 =>
      have : cs.size = 5 := hsz
      rw [Array.getElem?_eq_none (by omega), Array.getElem?_eq_none (by simp)]
  · simp [Lit.wf, IntKind.min, IntKind.max, IntKind.signed, IntKind.bits] at w0
    exact w0.1
/-- Words that came in. -/
def Wds (W : World) (v : Value) (l : List Int) : Prop := (∃ A c, v = .slice A l.length c ∧ l.length ≤ c ∧ Kd.C (Kd.int .u64) W A l.length l) ∧ ∀ x ∈ l, 0 ≤ x ∧ x < 18446744073709551616
set_option maxRecDepth 100000 in
theorem open_words {H : Type} {enc : TypeId × Value → H} {W : World} {base : Nat} {spare : Nat → Bool} {held : Bool} {r : Reach} {b0 : Nat} {v : Value} {d : DataW H} {ps : List MemPlace} (hval : Value.okWide Tryd.prog W r b0 25 v)
    (h : DataW.Trod enc Tryd.prog W base spare held 25 v d ps) : ∃ l : List Int, Wds W v l ∧ l.length ≤ maxLen := by
  obtain ⟨A0, len0, cap0, rfl⟩ := Go.WideShapes.okWide_slice Tryd.underlying25 hval
  obtain ⟨fuel, h⟩ := h
  obtain ⟨A, len, cap, e, hlc, hcm, hnone, hx⟩ := open_rows_of (C := 1) (v := .slice A0 len0 cap0) Tryd.underlying25 (by kernel_rfl) (by decide) h
  rw [e]
  obtain ⟨l, hl, hp⟩ := list_of (p := fun j (x : Int) => (0 ≤ x ∧ x < 18446744073709551616) ∧ ∃ b z, A = some ⟨b, z, none⟩ ∧ W.cell? ⟨b, z + j, none⟩ = some (.int .u64 x)) (len := len) (fun i hi => by
    obtain ⟨b, o, cs, n, y, hA, hcl, hcell, ht⟩ := hx i hi
    obtain ⟨c0, rfl⟩ : ∃ c0 : Value, cs = [c0] := by
      match cs, hcl with
      | [c0], _ => exact ⟨_, rfl⟩
    obtain ⟨x0, rfl, hw⟩ := cell_int Tryd.underlying22 ht
    have := hcell 0 _ rfl
    rw [Nat.mul_one, Nat.add_zero] at this
    simp [Lit.wf, IntKind.min, IntKind.max, IntKind.signed, IntKind.bits] at hw
    exact ⟨x0, ⟨hw.1, by omega⟩, b, o, hA, this⟩)
  subst hl
  refine ⟨l, ⟨⟨A, cap, rfl, hlc, rfl, by unfold maxLen at hcm; omega, fun hpos => ?_⟩, fun x hx => ?_⟩, Nat.le_trans hlc hcm⟩
  · obtain ⟨_, b, z, hA, _⟩ := hp 0 _ (List.getElem?_eq_getElem hpos)
    refine ⟨⟨b, z, none⟩, hA, fun j x hj => ⟨[.int .u64 x], rfl, rfl, fun i u hu => ?_⟩⟩
    have hi : i = 0 := by
      have := (List.getElem?_eq_some_iff.1 hu).1
      simp at this
      exact this
    subst hi
    have hu' : u = .int .u64 x := by simpa using hu.symm
    subst hu'
    obtain ⟨_, b', z', hA', hc⟩ := hp j x hj
    rw [hA] at hA'
    injection hA' with hA'
    injection hA' with e1 e2 _
    subst e1; subst e2
    have e3 : (⟨b, z, none⟩ : Addr).add (j * (Kd.int .u64).sz + 0) = ⟨b, z + j, none⟩ := by
      rw [show (Kd.int .u64).sz = 1 from rfl, Nat.mul_one, Nat.add_zero]
      unfold Addr.add
      split
      · rename_i hz; rw [hz]; rfl
      · rfl
    rw [e3]
    exact hc
  · obtain ⟨j, hj, rfl⟩ := List.mem_iff_getElem.1 hx
    exact (hp j _ (List.getElem?_eq_getElem hj)).1
theorem acts_walk (W : World) (hT : Dk W) (s : SiteV) (hs : 0 ≤ s.d) (v : Value) (l : List Int) (f : Wds W v l) (h : l.length ≤ maxLen) (u : Value) (row : List Int) (f' : Wds W u row) (h' : row.length ≤ maxLen) :
    Calls Tryd.prog 3 #[encS s.d s.th s.ts s.ke s.se, v, u] W fun e W' => e = .returned (.bool true) ∧ Below W.heap.size W W' := by
  obtain ⟨⟨A, cA, rfl, hcA, hk⟩, hwk⟩ := f
  obtain ⟨⟨G, cG, rfl, hcG, hg⟩, hwg⟩ := f'
  obtain ⟨d, th, ts, ke, se⟩ := s
  by_cases hl : 110 < row.length ∨ 20 < l.length
  · exact acts_light d th ts ke se A cA l G cG row W hT hk hcA hg hcG hl
  · cases hsite : siteB d th ts ke with
    | false => exact acts_bad d th ts ke se A cA l G cG row W hT hk hcA hg hcG (by omega) (by omega) hs hsite
    | true =>
      obtain ⟨T, rfl⟩ : ∃ T : Nat, ts = T := ⟨ts.toNat, by have := site_ok hsite; omega⟩
      exact acts_good d th T ke se A cA l G cG row W hT hk hcA hg hcG (by omega) (by omega) hs hsite hwk hwg
end Go.Proofs.YtkoebhflbhpfnaaDoor.FlTab
