/- lin: the reference's Find. lin: the laws. What the lin rows' condition on the library's tables gives a walk, and a world that meets it. -/
import Derived.Test.YtdhgacionopghaaGreatDoorLinGb
import Derived.Test.YtdhgacionopghaaGreatDoorOrdToursQ
import Derived.Test.YtdhgacionopghaaGreatDoorOrdCheckR
import Derived.Maps.AppendAt
import Derived.Deep.RegionLaw
import Derived.Deep.RegionHeld3
import Derived.Test.YtdhgacionopghaaGreatDoorLinGd
import Derived.Test.YtdhgacionopghaaGreatDoorRows
import Derived.Test.YtdhgacionopghaaGreatDoorOpenCalls
import Derived.Lib.LaidTab
import Derived.Lib.LaidU8
import Derived.LaidLaws
import Derived.Deep.DeepLaidRun
namespace Go.Proofs.YtdhgacionopghaaGreatDoor.Ln
open Go.RowKit Go.Shelf Dc DcM DcW DcI DcR DcL Sp Od Bq Bt
set_option linter.unusedVariables false
set_option linter.unusedSimpArgs false
def rstep (l : List CV) (tours : Bool) (f : Nat) (row : List Int) (p : Int) : Option (List Int) := if !row.contains p then findM l tours (f - 1) (row ++ [p]) else none
theorem full_mem' {l : List CV} {row : List Int} (hn : row.Nodup) (hs : ∀ a ∈ row, mappedB l a = true) (h : row.length = (plc l).length) {p : Int} (hp : p ∈ plc l) : p ∈ row := by
  rcases Classical.em (p ∈ row) with hc | hc
  · exact hc
  · exfalso
    have hn : (p :: row).Nodup := List.nodup_cons.2 ⟨hc, hn⟩
    have := nodup_len _ (plc l) hn (fun a ha => by
      rcases List.mem_cons.1 ha with e | e
      · subst e; exact hp
      · exact mem_plc.2 (hs a e))
    simp at this; omega
theorem find_step {l : List CV} {tours : Bool} {f : Nat} {row : List Int} (hn : row.Nodup) (hs : ∀ a ∈ row, mappedB l a = true) (h : row.length + f = (plc l).length) :
    findM l tours f row = if okT l tours row then some row else (plc l).findSome? (rstep l tours f row) := by
  cases f with
  | zero =>
    have hnone : (plc l).findSome? (rstep l tours 0 row) = none := by
      rw [List.findSome?_eq_none_iff]
      intro p hp
      have := full_mem' hn hs (by omega) hp
      unfold rstep
      rw [List.contains_iff_mem.2 this]; rfl
    rw [hnone]
    unfold findM
    rfl
  | succ f =>
    unfold findM
    rw [fs_filter]
    rfl
theorem row_len {l : List CV} {row : List Int} (hn : row.Nodup) (hs : ∀ a ∈ row, mappedB l a = true) : row.length ≤ (plc l).length := nodup_len _ _ hn fun a ha => mem_plc.2 (hs a ha)
/-- append of a row of ints to a row of the call's own, at a step of a region that draws its order. -/
theorem step_append_row {ops : Array Oper} {o : Oper} {a : Act} {w : World} {K : Act → World → Prop} {Q : Exit → Act → World → Prop} {E : Prop} (hgd : o.guard = none) (s x : Operand)
    (ho : o.op = .call { callee := .builtin .append, args := #[s, x], argTypes := #[23, 23] }) (base base' : Nat) (v u : Value) (n m : Nat) (xs ys : List Value) (hs : a.eval s = v) (hown : w.ownsRow base 3 1 v n xs)
    (hx : a.eval x = u) (hu : w.ownsRow base' 3 1 u m ys) (hone : ∀ y ∈ ys, y.oneCell' = true) (hsmall : n + m < 1000000) (hbase : base ≤ w.heap.size)
    (h : ∀ A cap w', w'.ownsRow base 3 1 (.slice A (n + m) cap) (n + m) (xs ++ ys) → w.grownBy w' v.ownBlock → K (a.put o.dst (.slice A (n + m) cap)) w') :
    if Region.wanted o (yielded ops a.tmps) = true then Oper.wp Tryz.prog o a w K Q else E := by
  obtain ⟨i0, hi, hz0, hz1, hz2⟩ := info_parts infoI
  have hw : Region.wanted o (yielded ops a.tmps) = true := by simp [Region.wanted, hgd]
  rw [if_pos hw]
  have hrun : ∃ A cap w', (Builtin.append_ #[23, 23] o.type #[v, u]).run Tryz.prog w = .ok (.slice A (n + m) cap) w' ∧ w'.ownsRow base 3 1 (.slice A (n + m) cap) (n + m) (xs ++ ys) ∧ w.grownBy w' v.ownBlock := by
    rcases id hu.2 with ⟨rfl, hm⟩ | ⟨g, cap, cur, hv, _⟩
    · subst hm
      have hy : ys = [] := List.length_eq_zero_iff.1 (by rw [hu.1])
      subst hy
      obtain ⟨A, cap, rfl⟩ := owns_shape hown
      have := run_append_owned_none (P := Tryz.prog) (w := w) base 23 o.type 3 i0 1 Tryz.underlying23 hi _ n xs hown
      exact ⟨A, cap, w, this, by simpa using hown, ⟨rfl, rfl, rfl, Nat.le_refl _, fun _ _ _ => rfl⟩⟩
    · subst hv
      obtain ⟨v', w', hr, h2, h3, _, _⟩ := run_append_own_at (P := Tryz.prog) w base 23 o.type 3 i0 (.int .i64 0) 1 8 Tryz.underlying23 hi hz0 hz1 hz2 rfl (by decide) v n xs hown ⟨g, 0, none⟩ m cap ys hu.1 (hu.cells rfl) hone (by unfold maxLen; omega) (by omega) hbase
      obtain ⟨A', cap', rfl⟩ := owns_shape h2
      exact ⟨A', cap', w', hr, h2, h3⟩
  obtain ⟨A, cap, w', hr, h2, h3⟩ := hrun
  unfold Oper.wp execOp
  simp only [ho, resolve, invoke, builtin, Sem.run_bind, Sem.run_pure, Result.andThen_ok, List.map_toArray, List.map_cons, List.map_nil, hs, hx, hr]
  exact h A cap w' h2 h3
theorem own_made {w : World} {g base : Nat} (h : w.heap[g]? = some (.cells #[] 3 (0, 0))) (hb : base ≤ g) : w.ownsRow base 3 1 (.slice (some ⟨g, 0, none⟩) 0 0) 0 [] :=
  ⟨by simp, Or.inr ⟨g, 0, #[], rfl, hb, h, Nat.le_refl _, by unfold maxLen; omega, by simp, by simp⟩⟩
theorem own_one {w : World} {g base : Nat} {x : Value} (h : w.heap[g]? = some (.cells #[x] 3 (0, 0))) (hb : base ≤ g) : w.ownsRow base 3 1 (.slice (some ⟨g, 0, none⟩) 1 1) 1 [x] :=
  ⟨by simp, Or.inr ⟨g, 1, #[x], rfl, hb, h, Nat.le_refl _, by unfold maxLen; omega, by simp, by simp⟩⟩
theorem r1 (w : World) (o : Obj) : ((w.alloc o).drew).heap[w.heap.size]? = some o := heap_alloc_new w o
theorem r2 (w : World) (o o' : Obj) : (((w.alloc o).alloc o').drew).heap[w.heap.size]? = some o := (Below.heap_alloc (w.alloc o) o' _ (by simp)).trans (heap_alloc_new w o)
theorem r3 (w : World) (o o' : Obj) : (((w.alloc o).alloc o').drew).heap[w.heap.size + 1]? = some o' := by
  have := heap_alloc_new (w.alloc o) o'
  rw [World.size_alloc] at this
  exact this
theorem kp1 (w : World) (o : Obj) : ∀ j, j < w.heap.size → ((w.alloc o).drew).heap[j]? = w.heap[j]? := fun j hj => Below.heap_alloc w o j hj
theorem kp2 (w : World) (o o' : Obj) : ∀ j, j < w.heap.size → (((w.alloc o).alloc o').drew).heap[j]? = w.heap[j]? := fun j hj => (Below.heap_alloc (w.alloc o) o' j (by simp; omega)).trans (Below.heap_alloc w o j hj)
theorem below_grown2 {w W w' : World} {g : Nat} {n c : Nat} (hk : ∀ j, j < w.heap.size → W.heap[j]? = w.heap[j]?) (hg : W.grownBy w' (Value.slice (some ⟨g, 0, none⟩) n c).ownBlock) (h : w.heap.size ≤ g) (ho : W.os = w.os := by rfl) (ht : W.tape = w.tape := by rfl) (hu : W.output = w.output := by rfl) (hs : w.heap.size ≤ W.heap.size := by simp; try omega) : Below w.heap.size w w' :=
  ⟨hg.os.trans ho, hg.tape.trans ht, hg.output.trans hu, Nat.le_trans hs hg.size, fun j hj => (hg.block j (Nat.lt_of_lt_of_le hj hs) (by simp [Value.ownBlock]; omega)).trans (hk j hj)⟩
theorem its_any' {w : World} {v : Value} {l : List Int} (h : Its w v l) : ∃ A cap, v = .slice A l.length cap := by
  obtain ⟨A, cap, e, _⟩ := h; exact ⟨A, cap, e⟩
def RPost (l : List CV) (tours : Bool) (f : Nat) (row : List Int) (w : World) (e : Ending) (w' : World) : Prop :=
  ∃ v', e = .returned (.tuple #[v', .bool (findM l tours f row).isSome]) ∧ Its w' v' ((findM l tours f row).getD []) ∧ Below w.heap.size w w'
def RefAt (l : List CV) (tours : Bool) (f : Nat) : Prop := ∀ (w : World) (v u : Value) (row : List Int), Cls w v l → w.ownsRow 0 3 1 u row.length (row.map (Value.int .i64)) → row.Nodup → (∀ a ∈ row, mappedB l a = true) → row.length + f = (plc l).length →
  Calls Tryz.prog 12 #[v, u, .bool tours] w (RPost l tours f row w)
theorem its_at' {w : World} {A : Option Addr} {n cap k : Nat} {l : List Int} {p : Int} (h : Its w (.slice A n cap) l) (hp : l[k]? = some p) : ∃ b z, A = some ⟨b, z, none⟩ ∧ b < w.heap.size ∧ w.cell? ⟨b, z + k, none⟩ = some (.int .i64 p) := by
  obtain ⟨A', cap', e, _, hc⟩ := h
  injection e with e1 e2 e3
  subst e1
  exact hc k p hp
set_option maxRecDepth 100000 in
set_option maxHeartbeats 32000000 in
theorem ref_any {l : List CV} {tours : Bool} (hlp : ∀ (j : Nat) (q : CV), l[j]? = some q → q.1.reply.pairs.length < 100000) (hP9 : (plc l).length ≤ 9) (hl : l.length < 1000000) : ∀ f, RefAt l tours f := by
  intro f
  induction f using Nat.strongRecOn with
  | _ f ih =>
  intro w v u row hC hU hnd hsub hlen
  have hrow9 : row.length ≤ 9 := by have := row_len hnd hsub; omega
  have CK := Lib.hid (checkR_any w v u l row hC (its_of_owns hU) hl (by omega) hlp)
  have HST := Lib.hid (find_step (tours := tours) hnd hsub hlen)
  have HC := Lib.hid hC
  have HU := Lib.hid hU
  have HND := Lib.hid hnd
  have HSUB := Lib.hid hsub
  have HLEN := Lib.hid hlen
  have HLP := Lib.hid hlp
  obtain ⟨A, cap, rfl, _⟩ := hC
  obtain ⟨Au, cu, rfl⟩ := owns_shape hU
  have HOK := Lib.hid (show okT l tours row = (decide ((checkM l row).2 = 0) && (!tours || (toursM l row).2)) from rfl)
  obtain ⟨t2, ht2⟩ : ∃ x, x = (toursM l row).2 := ⟨_, rfl⟩
  obtain ⟨t1, ht1⟩ : ∃ x, x = (toursM l row).1 := ⟨_, rfl⟩
  obtain ⟨k2, hk2⟩ : ∃ x, x = (checkM l row).2 := ⟨_, rfl⟩
  obtain ⟨k1, hk1⟩ : ∃ x, x = (checkM l row).1 := ⟨_, rfl⟩
  rw [← ht2, ← hk2] at HOK
  rw [← hk1, ← hk2] at CK
  have HT1 := Lib.hid ht1
  have HT2 := Lib.hid ht2
  clear hU hnd hsub hlen hlp ht1 ht2 hk1 hk2
  go_enter Tryz.func12, Tryz.ntmps12
  go_wp2_with fail
  refine CK.out.mono ?_
  rintro e w1 ⟨rfl, hb1⟩
  have CT := Lib.hid (toursR_any w1 _ _ l row (HC.out.below hb1) (its_of_owns (owns_below HU.out hb1)) hl (by omega) HLP.out)
  rw [← HT1.out, ← HT2.out] at CT
  have B1 := Lib.hid hb1
  clear hb1
  go_wp2_with fail
  refine CT.out.mono ?_
  rintro e w2 ⟨rfl, hb2⟩
  have B2 := Lib.hid (B1.out.trans (hb2.mono B1.out.size))
  clear hb2
  cases hok : okT l tours row with
  | true =>
    have HF := Lib.hid (show findM l tours f row = some row by rw [HST.out, hok]; rfl)
    have h0 : k2 = 0 := by
      have := HOK.out
      rw [hok] at this
      have := this.symm
      simp only [Bool.and_eq_true, decide_eq_true_eq] at this
      exact this.1
    have h1 : (!tours || t2) = true := by
      have := HOK.out
      rw [hok] at this
      have := this.symm
      rw [Bool.and_eq_true] at this
      exact this.2
    subst h0
    clear hok
    cases t2 with
    | true =>
      clear h1
      go_wp2_with fail
      go_ret2
      exact ⟨_, by rw [HF.out]; rfl, by rw [HF.out]; exact its_of_owns (owns_below HU.out B2.out), B2.out⟩
    | false =>
      cases tours with
      | true => cases h1
      | false =>
        clear h1
        go_wp2_with fail
        go_ret2
        exact ⟨_, by rw [HF.out]; rfl, by rw [HF.out]; exact its_of_owns (owns_below HU.out B2.out), B2.out⟩
  | false =>
    have HF := Lib.hid (show findM l tours f row = (plc l).findSome? (rstep l tours f row) by rw [HST.out, hok]; rfl)
    have hno : ¬ (k2 = 0 ∧ (!tours || t2) = true) := by
      have := HOK.out
      rw [hok] at this
      rintro ⟨e1, e2⟩
      rw [e1, e2] at this
      cases this
    have C2 := Lib.hid (mappedL_ref w2 _ l (HC.out.below B2.out) hl)
    clear hok
    have HNO := Lib.hid hno
    clear hno
    by_cases h0 : k2 = 0
    · cases t2 with
      | true => exact absurd ⟨h0, by simp⟩ HNO.out
      | false =>
        cases tours with
        | false => exact absurd ⟨h0, rfl⟩ HNO.out
        | true =>
          subst h0
          go_wp2_with fail
          refine C2.out.mono ?_
          rintro e w3 ⟨v3, rfl, ho3, hb3⟩
          obtain ⟨NP, hNP⟩ : ∃ x, x = (plc l).length := ⟨_, rfl⟩
          have HI3 := Lib.hid (its_of_owns ho3)
          obtain ⟨A3, c3, rfl⟩ := owns_shape ho3
          rw [← hNP] at HI3
          rw [← hNP]
          have HNP := Lib.hid hNP
          have B3 := Lib.hid (B2.out.trans (hb3.mono B2.out.size))
          have hNP9 : NP ≤ 9 := by omega
          clear ho3 hb3 hNP
          go_wp2_with fail
          go_loopw [13] (fun i wr => ∃ k : Nat, k ≤ NP ∧ i = .int .i64 k ∧ Below w3.heap.size w3 wr ∧ ∀ x ∈ (plc l).take k, rstep l true f row x = none) (fun i _ => NP - (intOf i).toNat)
          case atStart => exact ⟨0, Nat.zero_le _, rfl, Below.refl _ _, fun x hx => by simp at hx⟩
          case round =>
            obtain ⟨k, hk, rfl, hB, hno⟩ := hrel
            have HB := Lib.hid hB
            have HN := Lib.hid hno
            have BW := Lib.hid (B3.out.trans (hB.mono B3.out.size))
            clear hno
            by_cases hp : k < NP
            · obtain ⟨p, hp2⟩ : ∃ p, (plc l)[k]? = some p := ⟨_, List.getElem?_eq_getElem (by rw [← HNP.out]; exact hp)⟩
              have HM := Lib.hid (mem_plc.1 (List.mem_of_getElem? hp2))
              obtain ⟨b6, z6, rfl, hbl6, c6⟩ := its_at' (HI3.out.below hB) hp2
              have HP2 := Lib.hid hp2
              have HU1 := Lib.hid (owns_below HU.out BW.out)
              have HC1 := Lib.hid (HC.out.below BW.out)
              have CH := Lib.hid (has_ref wr _ row p (its_of_owns HU1.out) (by omega))
              obtain ⟨cn, hcn⟩ : ∃ x, x = row.contains p := ⟨_, rfl⟩
              rw [← hcn] at CH
              have HCN := Lib.hid hcn
              clear hp2 hB hcn
              go_wp2_with fail
              refine CH.out.mono ?_
              rintro e w4 ⟨rfl, hw4⟩
              subst hw4
              cases cn with
              | true =>
                have HR := Lib.hid (show rstep l true f row p = none by unfold rstep; rw [← HCN.out]; rfl)
                clear c6
                go_wp2_with fail
                exact ⟨⟨k + 1, by omega, by go_num, HB.out, take_all HP2.out HN.out HR.out⟩, by show NP - ((k : Int) + 1).toNat < NP - (k : Int).toNat; omega⟩
              | false =>
                have HR := Lib.hid (show rstep l true f row p = findM l true (f - 1) (row ++ [p]) by unfold rstep; rw [← HCN.out]; rfl)
                have hsrc : ∀ W : World, (∀ j, j < w4.heap.size → W.heap[j]? = w4.heap[j]?) → W.ownsRow 0 3 1 (.slice Au row.length cu) row.length (row.map (Value.int .i64)) := fun W h => owns_kept HU1.out fun j cs fz hj => h j (Array.getElem?_eq_some_iff.1 hj).1
                have HSRC := Lib.hid hsrc
                clear hsrc
                go_wp2_with fail
                have hone : ∀ y ∈ row.map (Value.int .i64), y.oneCell' = true := by intro y hy; obtain ⟨a, _, rfl⟩ := List.mem_map.1 hy; rfl
                have hone1 : ∀ y ∈ [Value.int .i64 p], y.oneCell' = true := by intro y hy; simp at hy; subst hy; rfl
                go_region_law (first | (refine step_append_row (by rfl) (.tmp 53) (.tmp 54) (by rfl) w4.heap.size 0 (.slice (some ⟨w4.heap.size, 0, none⟩) 0 0) (.slice Au row.length cu) 0 row.length [] (row.map (Value.int .i64)) (by rfl) (own_made (r1 _ _) (Nat.le_refl _)) (by rfl) (HSRC.out _ (kp1 _ _)) hone (by omega) (by simp; try omega) ?_; intro A9 cap9 w9 hown9 hgrow9; simp only [Nat.zero_add, List.nil_append] at hown9; have hb9 := below_grown2 (kp1 _ _) hgrow9 (Nat.le_refl _); have c9 : World.cell? w9 ⟨b6, z6 + k, none⟩ = some (.int .i64 p) := (hb9.cell (p := ⟨b6, z6 + k, none⟩) hbl6).trans c6; have HO9 := Lib.hid hown9; have HG9 := Lib.hid hgrow9; have HB9 := Lib.hid hb9; clear hown9 hgrow9 hb9) | (refine step_append_row (by rfl) (.tmp 53) (.tmp 54) (by rfl) w4.heap.size 0 (.slice (some ⟨w4.heap.size, 0, none⟩) 0 0) (.slice Au row.length cu) 0 row.length [] (row.map (Value.int .i64)) (by rfl) (own_made (r2 _ _ _) (Nat.le_refl _)) (by rfl) (HSRC.out _ (kp2 _ _ _)) hone (by omega) (by simp; try omega) ?_; intro A9 cap9 w9 hown9 hgrow9; simp only [Nat.zero_add, List.nil_append] at hown9; have hb9 := below_grown2 (kp2 _ _ _) hgrow9 (Nat.le_refl _); have c9 : World.cell? w9 ⟨b6, z6 + k, none⟩ = some (.int .i64 p) := (hb9.cell (p := ⟨b6, z6 + k, none⟩) hbl6).trans c6; have HO9 := Lib.hid hown9; have HG9 := Lib.hid hgrow9; have HB9 := Lib.hid hb9; clear hown9 hgrow9 hb9) | (refine step_append_row (by rfl) (.tmp 53) (.tmp 54) (by rfl) w4.heap.size 0 (.slice (some ⟨w4.heap.size + 1, 0, none⟩) 0 0) (.slice Au row.length cu) 0 row.length [] (row.map (Value.int .i64)) (by rfl) (own_made (r3 _ _ _) (Nat.le_succ _)) (by rfl) (HSRC.out _ (kp2 _ _ _)) hone (by omega) (by simp; try omega) ?_; intro A9 cap9 w9 hown9 hgrow9; simp only [Nat.zero_add, List.nil_append] at hown9; have hb9 := below_grown2 (kp2 _ _ _) hgrow9 (Nat.le_succ _); have c9 : World.cell? w9 ⟨b6, z6 + k, none⟩ = some (.int .i64 p) := (hb9.cell (p := ⟨b6, z6 + k, none⟩) hbl6).trans c6; have HO9 := Lib.hid hown9; have HG9 := Lib.hid hgrow9; have HB9 := Lib.hid hb9; clear hown9 hgrow9 hb9) | (refine step_append_row (by rfl) (.tmp 55) (.tmp 60) (by rfl) w4.heap.size 0 (.slice A9 row.length cap9) (.slice (some ⟨w9.heap.size, 0, none⟩) 1 1) row.length 1 (row.map (Value.int .i64)) [.int .i64 p] (by rfl) (HO9.out.alloc _) (by rfl) (own_one (heap_alloc_new w9 _) (Nat.zero_le _)) hone1 (by omega) (Nat.le_trans HB9.out.size (by simp)) ?_; intro A10 cap10 w10 hown10 hgrow10; have HO10 := Lib.hid hown10; have HB10 := Lib.hid (show Below w4.heap.size w4 w10 from (HB9.out.alloc HB9.out.size _).grown hgrow10 (Nat.le_trans HB9.out.size (by simp)) (fun g hg => (HO9.out.lt g hg).1)); clear hown10 hgrow10) | (refine step_append_row (by rfl) (.tmp 55) (.tmp 60) (by rfl) w4.heap.size 0 (.slice A9 row.length cap9) (.slice (some ⟨w4.heap.size + 1, 0, none⟩) 1 1) row.length 1 (row.map (Value.int .i64)) [.int .i64 p] (by rfl) (HO9.out) (by rfl) (own_one ((HG9.out.block _ (by simp) (by simp [Value.ownBlock])).trans (r3 _ _ _)) (Nat.zero_le _)) hone1 (by omega) (HB9.out.size) ?_; intro A10 cap10 w10 hown10 hgrow10; have HO10 := Lib.hid hown10; have HB10 := Lib.hid (show Below w4.heap.size w4 w10 from HB9.out.grown hgrow10 HB9.out.size (fun g hg => (HO9.out.lt g hg).1)); clear hown10 hgrow10) | (refine step_append_row (by rfl) (.tmp 55) (.tmp 60) (by rfl) w4.heap.size 0 (.slice A9 row.length cap9) (.slice (some ⟨w4.heap.size, 0, none⟩) 1 1) row.length 1 (row.map (Value.int .i64)) [.int .i64 p] (by rfl) (HO9.out) (by rfl) (own_one ((HG9.out.block _ (by simp; omega) (by simp [Value.ownBlock])).trans (r2 _ _ _)) (Nat.zero_le _)) hone1 (by omega) (HB9.out.size) ?_; intro A10 cap10 w10 hown10 hgrow10; have HO10 := Lib.hid hown10; have HB10 := Lib.hid (show Below w4.heap.size w4 w10 from HB9.out.grown hgrow10 HB9.out.size (fun g hg => (HO9.out.lt g hg).1)); clear hown10 hgrow10))
                all_goals
                  have hnd' : (row ++ [p]).Nodup := by
                    rw [List.nodup_append]
                    refine ⟨HND.out, by simp, fun a ha b hb => ?_⟩
                    simp at hb; subst hb
                    intro e; subst e
                    have := HCN.out
                    rw [List.contains_iff_mem.2 ha] at this
                    cases this
                  have hsub' : ∀ a ∈ row ++ [p], mappedB l a = true := fun a ha => by
                    rw [List.mem_append] at ha
                    rcases ha with ha | ha
                    · exact HSUB.out a ha
                    · simp at ha; subst ha; exact HM.out
                  have hfl := row_len hnd' hsub'
                  obtain ⟨f', rfl⟩ : ∃ f', f = f' + 1 := ⟨f - 1, by have := HLEN.out; simp at hfl; omega⟩
                  have IH := Lib.hid (ih f' (by omega) w10 (.slice A l.length cap) (.slice A10 (row.length + 1) cap10) (row ++ [p]) (HC1.out.below HB10.out) (by have := owns_lift HO10.out (Nat.zero_le _); simpa using this) hnd' hsub' (by have := HLEN.out; simp; omega))
                  clear hnd' hsub' hfl c6
                  try clear c9
                  go_wp2_with fail
                  refine IH.out.mono ?_
                  rintro e w11 ⟨v11, rfl, hi11, hb11⟩
                  have HI11 := Lib.hid hi11
                  have B11 := Lib.hid (HB10.out.trans (hb11.mono HB10.out.size))
                  obtain ⟨A11, c11, e11⟩ := its_any' hi11
                  subst e11
                  clear hi11 hb11
                  cases hfm : findM l true f' (row ++ [p]) with
                  | some r =>
                    have HRES := Lib.hid (show findM l true (f' + 1) row = some r by rw [HF.out, fs_at HP2.out HN.out (by rw [HR.out]; show findM l true f' (row ++ [p]) ≠ none; rw [hfm]; exact fun e => by cases e), HR.out]; exact hfm)
                    rw [hfm] at HI11
                    clear hfm
                    go_wp2_with fail
                    go_ret2
                    exact ⟨_, by rw [HRES.out]; rfl, by rw [HRES.out]; exact HI11.out, BW.out.trans (B11.out.mono BW.out.size)⟩
                  | none =>
                    have HR2 := Lib.hid (show rstep l true (f' + 1) row p = none by rw [HR.out]; exact hfm)
                    clear hfm
                    go_wp2_with fail
                    exact ⟨⟨k + 1, by omega, by go_num, HB.out.trans (B11.out.mono HB.out.size), take_all HP2.out HN.out HR2.out⟩, by show NP - ((k : Int) + 1).toNat < NP - (k : Int).toNat; omega⟩
            · obtain rfl : k = NP := by omega
              have HALL := Lib.hid (show findM l true f row = none by
                rw [HF.out, List.findSome?_eq_none_iff]
                intro x hx
                exact HN.out x (by rw [List.take_of_length_le (by rw [← HNP.out]; exact Nat.le_refl _)]; exact hx))
              clear hB
              go_wp2_with fail
              go_ret2
              exact ⟨_, by rw [HALL.out]; rfl, by rw [HALL.out]; exact ⟨none, 0, rfl, Nat.le_refl _, fun j x hx => by simp at hx⟩, BW.out⟩
    · have hb0 : (k2 == 0) = false := by rw [beq_eq_false_iff_ne]; exact h0
      clear h0
      go_wp2_with fail
      refine C2.out.mono ?_
      rintro e w3 ⟨v3, rfl, ho3, hb3⟩
      obtain ⟨NP, hNP⟩ : ∃ x, x = (plc l).length := ⟨_, rfl⟩
      have HI3 := Lib.hid (its_of_owns ho3)
      obtain ⟨A3, c3, rfl⟩ := owns_shape ho3
      rw [← hNP] at HI3
      rw [← hNP]
      have HNP := Lib.hid hNP
      have B3 := Lib.hid (B2.out.trans (hb3.mono B2.out.size))
      have hNP9 : NP ≤ 9 := by omega
      clear ho3 hb3 hNP
      go_wp2_with fail
      go_loopw [13] (fun i wr => ∃ k : Nat, k ≤ NP ∧ i = .int .i64 k ∧ Below w3.heap.size w3 wr ∧ ∀ x ∈ (plc l).take k, rstep l tours f row x = none) (fun i _ => NP - (intOf i).toNat)
      case atStart => exact ⟨0, Nat.zero_le _, rfl, Below.refl _ _, fun x hx => by simp at hx⟩
      case round =>
        obtain ⟨k, hk, rfl, hB, hno⟩ := hrel
        have HB := Lib.hid hB
        have HN := Lib.hid hno
        have BW := Lib.hid (B3.out.trans (hB.mono B3.out.size))
        clear hno
        by_cases hp : k < NP
        · obtain ⟨p, hp2⟩ : ∃ p, (plc l)[k]? = some p := ⟨_, List.getElem?_eq_getElem (by rw [← HNP.out]; exact hp)⟩
          have HM := Lib.hid (mem_plc.1 (List.mem_of_getElem? hp2))
          obtain ⟨b6, z6, rfl, hbl6, c6⟩ := its_at' (HI3.out.below hB) hp2
          have HP2 := Lib.hid hp2
          have HU1 := Lib.hid (owns_below HU.out BW.out)
          have HC1 := Lib.hid (HC.out.below BW.out)
          have CH := Lib.hid (has_ref wr _ row p (its_of_owns HU1.out) (by omega))
          obtain ⟨cn, hcn⟩ : ∃ x, x = row.contains p := ⟨_, rfl⟩
          rw [← hcn] at CH
          have HCN := Lib.hid hcn
          clear hp2 hB hcn
          go_wp2_with fail
          refine CH.out.mono ?_
          rintro e w4 ⟨rfl, hw4⟩
          subst hw4
          cases cn with
          | true =>
            have HR := Lib.hid (show rstep l tours f row p = none by unfold rstep; rw [← HCN.out]; rfl)
            clear c6
            go_wp2_with fail
            exact ⟨⟨k + 1, by omega, by go_num, HB.out, take_all HP2.out HN.out HR.out⟩, by show NP - ((k : Int) + 1).toNat < NP - (k : Int).toNat; omega⟩
          | false =>
            have HR := Lib.hid (show rstep l tours f row p = findM l tours (f - 1) (row ++ [p]) by unfold rstep; rw [← HCN.out]; rfl)
            have hsrc : ∀ W : World, (∀ j, j < w4.heap.size → W.heap[j]? = w4.heap[j]?) → W.ownsRow 0 3 1 (.slice Au row.length cu) row.length (row.map (Value.int .i64)) := fun W h => owns_kept HU1.out fun j cs fz hj => h j (Array.getElem?_eq_some_iff.1 hj).1
            have HSRC := Lib.hid hsrc
            clear hsrc
            go_wp2_with fail
            have hone : ∀ y ∈ row.map (Value.int .i64), y.oneCell' = true := by intro y hy; obtain ⟨a, _, rfl⟩ := List.mem_map.1 hy; rfl
            have hone1 : ∀ y ∈ [Value.int .i64 p], y.oneCell' = true := by intro y hy; simp at hy; subst hy; rfl
            go_region_law (first | (refine step_append_row (by rfl) (.tmp 53) (.tmp 54) (by rfl) w4.heap.size 0 (.slice (some ⟨w4.heap.size, 0, none⟩) 0 0) (.slice Au row.length cu) 0 row.length [] (row.map (Value.int .i64)) (by rfl) (own_made (r1 _ _) (Nat.le_refl _)) (by rfl) (HSRC.out _ (kp1 _ _)) hone (by omega) (by simp; try omega) ?_; intro A9 cap9 w9 hown9 hgrow9; simp only [Nat.zero_add, List.nil_append] at hown9; have hb9 := below_grown2 (kp1 _ _) hgrow9 (Nat.le_refl _); have c9 : World.cell? w9 ⟨b6, z6 + k, none⟩ = some (.int .i64 p) := (hb9.cell (p := ⟨b6, z6 + k, none⟩) hbl6).trans c6; have HO9 := Lib.hid hown9; have HG9 := Lib.hid hgrow9; have HB9 := Lib.hid hb9; clear hown9 hgrow9 hb9) | (refine step_append_row (by rfl) (.tmp 53) (.tmp 54) (by rfl) w4.heap.size 0 (.slice (some ⟨w4.heap.size, 0, none⟩) 0 0) (.slice Au row.length cu) 0 row.length [] (row.map (Value.int .i64)) (by rfl) (own_made (r2 _ _ _) (Nat.le_refl _)) (by rfl) (HSRC.out _ (kp2 _ _ _)) hone (by omega) (by simp; try omega) ?_; intro A9 cap9 w9 hown9 hgrow9; simp only [Nat.zero_add, List.nil_append] at hown9; have hb9 := below_grown2 (kp2 _ _ _) hgrow9 (Nat.le_refl _); have c9 : World.cell? w9 ⟨b6, z6 + k, none⟩ = some (.int .i64 p) := (hb9.cell (p := ⟨b6, z6 + k, none⟩) hbl6).trans c6; have HO9 := Lib.hid hown9; have HG9 := Lib.hid hgrow9; have HB9 := Lib.hid hb9; clear hown9 hgrow9 hb9) | (refine step_append_row (by rfl) (.tmp 53) (.tmp 54) (by rfl) w4.heap.size 0 (.slice (some ⟨w4.heap.size + 1, 0, none⟩) 0 0) (.slice Au row.length cu) 0 row.length [] (row.map (Value.int .i64)) (by rfl) (own_made (r3 _ _ _) (Nat.le_succ _)) (by rfl) (HSRC.out _ (kp2 _ _ _)) hone (by omega) (by simp; try omega) ?_; intro A9 cap9 w9 hown9 hgrow9; simp only [Nat.zero_add, List.nil_append] at hown9; have hb9 := below_grown2 (kp2 _ _ _) hgrow9 (Nat.le_succ _); have c9 : World.cell? w9 ⟨b6, z6 + k, none⟩ = some (.int .i64 p) := (hb9.cell (p := ⟨b6, z6 + k, none⟩) hbl6).trans c6; have HO9 := Lib.hid hown9; have HG9 := Lib.hid hgrow9; have HB9 := Lib.hid hb9; clear hown9 hgrow9 hb9) | (refine step_append_row (by rfl) (.tmp 55) (.tmp 60) (by rfl) w4.heap.size 0 (.slice A9 row.length cap9) (.slice (some ⟨w9.heap.size, 0, none⟩) 1 1) row.length 1 (row.map (Value.int .i64)) [.int .i64 p] (by rfl) (HO9.out.alloc _) (by rfl) (own_one (heap_alloc_new w9 _) (Nat.zero_le _)) hone1 (by omega) (Nat.le_trans HB9.out.size (by simp)) ?_; intro A10 cap10 w10 hown10 hgrow10; have HO10 := Lib.hid hown10; have HB10 := Lib.hid (show Below w4.heap.size w4 w10 from (HB9.out.alloc HB9.out.size _).grown hgrow10 (Nat.le_trans HB9.out.size (by simp)) (fun g hg => (HO9.out.lt g hg).1)); clear hown10 hgrow10) | (refine step_append_row (by rfl) (.tmp 55) (.tmp 60) (by rfl) w4.heap.size 0 (.slice A9 row.length cap9) (.slice (some ⟨w4.heap.size + 1, 0, none⟩) 1 1) row.length 1 (row.map (Value.int .i64)) [.int .i64 p] (by rfl) (HO9.out) (by rfl) (own_one ((HG9.out.block _ (by simp) (by simp [Value.ownBlock])).trans (r3 _ _ _)) (Nat.zero_le _)) hone1 (by omega) (HB9.out.size) ?_; intro A10 cap10 w10 hown10 hgrow10; have HO10 := Lib.hid hown10; have HB10 := Lib.hid (show Below w4.heap.size w4 w10 from HB9.out.grown hgrow10 HB9.out.size (fun g hg => (HO9.out.lt g hg).1)); clear hown10 hgrow10) | (refine step_append_row (by rfl) (.tmp 55) (.tmp 60) (by rfl) w4.heap.size 0 (.slice A9 row.length cap9) (.slice (some ⟨w4.heap.size, 0, none⟩) 1 1) row.length 1 (row.map (Value.int .i64)) [.int .i64 p] (by rfl) (HO9.out) (by rfl) (own_one ((HG9.out.block _ (by simp; omega) (by simp [Value.ownBlock])).trans (r2 _ _ _)) (Nat.zero_le _)) hone1 (by omega) (HB9.out.size) ?_; intro A10 cap10 w10 hown10 hgrow10; have HO10 := Lib.hid hown10; have HB10 := Lib.hid (show Below w4.heap.size w4 w10 from HB9.out.grown hgrow10 HB9.out.size (fun g hg => (HO9.out.lt g hg).1)); clear hown10 hgrow10))
            all_goals
              have hnd' : (row ++ [p]).Nodup := by
                rw [List.nodup_append]
                refine ⟨HND.out, by simp, fun a ha b hb => ?_⟩
                simp at hb; subst hb
                intro e; subst e
                have := HCN.out
                rw [List.contains_iff_mem.2 ha] at this
                cases this
              have hsub' : ∀ a ∈ row ++ [p], mappedB l a = true := fun a ha => by
                rw [List.mem_append] at ha
                rcases ha with ha | ha
                · exact HSUB.out a ha
                · simp at ha; subst ha; exact HM.out
              have hfl := row_len hnd' hsub'
              obtain ⟨f', rfl⟩ : ∃ f', f = f' + 1 := ⟨f - 1, by have := HLEN.out; simp at hfl; omega⟩
              have IH := Lib.hid (ih f' (by omega) w10 (.slice A l.length cap) (.slice A10 (row.length + 1) cap10) (row ++ [p]) (HC1.out.below HB10.out) (by have := owns_lift HO10.out (Nat.zero_le _); simpa using this) hnd' hsub' (by have := HLEN.out; simp; omega))
              clear hnd' hsub' hfl c6
              try clear c9
              go_wp2_with fail
              refine IH.out.mono ?_
              rintro e w11 ⟨v11, rfl, hi11, hb11⟩
              have HI11 := Lib.hid hi11
              have B11 := Lib.hid (HB10.out.trans (hb11.mono HB10.out.size))
              obtain ⟨A11, c11, e11⟩ := its_any' hi11
              subst e11
              clear hi11 hb11
              cases hfm : findM l tours f' (row ++ [p]) with
              | some r =>
                have HRES := Lib.hid (show findM l tours (f' + 1) row = some r by rw [HF.out, fs_at HP2.out HN.out (by rw [HR.out]; show findM l tours f' (row ++ [p]) ≠ none; rw [hfm]; exact fun e => by cases e), HR.out]; exact hfm)
                rw [hfm] at HI11
                clear hfm
                go_wp2_with fail
                go_ret2
                exact ⟨_, by rw [HRES.out]; rfl, by rw [HRES.out]; exact HI11.out, BW.out.trans (B11.out.mono BW.out.size)⟩
              | none =>
                have HR2 := Lib.hid (show rstep l tours (f' + 1) row p = none by rw [HR.out]; exact hfm)
                clear hfm
                go_wp2_with fail
                exact ⟨⟨k + 1, by omega, by go_num, HB.out.trans (B11.out.mono HB.out.size), take_all HP2.out HN.out HR2.out⟩, by show NP - ((k : Int) + 1).toNat < NP - (k : Int).toNat; omega⟩
        · obtain rfl : k = NP := by omega
          have HALL := Lib.hid (show findM l tours f row = none by
            rw [HF.out, List.findSome?_eq_none_iff]
            intro x hx
            exact HN.out x (by rw [List.take_of_length_le (by rw [← HNP.out]; exact Nat.le_refl _)]; exact hx))
          clear hB
          go_wp2_with fail
          go_ret2
          exact ⟨_, by rw [HALL.out]; rfl, by rw [HALL.out]; exact ⟨none, 0, rfl, Nat.le_refl _, fun j x hx => by simp at hx⟩, BW.out⟩
end Go.Proofs.YtdhgacionopghaaGreatDoor.Ln
namespace Go.Proofs.YtdhgacionopghaaGreatDoor.Ln
open Go.RowKit Go.Shelf Dc DcM DcW DcI DcR DcL Sp Od Bq
set_option linter.unusedVariables false
set_option linter.unusedSimpArgs false
theorem plc_len (l : List CV) : (plc l).length ≤ l.length := by
  unfold plc plcN; rw [List.length_map]; exact Nat.le_trans (List.length_filter_le _ _) (by simp)
theorem find_len (l : List CV) (t : Bool) (f : Nat) : ((findM l t f []).getD []).length ≤ (plc l).length := by
  cases h : findM l t f [] with
  | none => simp
  | some r =>
    obtain ⟨_, h2⟩ := findM_some f _ _ h
    unfold okT at h2
    rw [Bool.and_eq_true] at h2
    obtain ⟨h3, h4⟩ := nodup_of_ok h2.1
    exact nodup_len _ _ h3 fun a ha => mem_plc.2 (h4 a ha)
theorem small_of {l : List CV} {most : Nat} (h : lightB l most = true) (hm : most < 30) : l.length ≤ most ∧ smallL l := light_small h hm
theorem small_hlp {l : List CV} (h : smallL l) : ∀ (j : Nat) (q : CV), l[j]? = some q → q.1.reply.pairs.length < 100000 := fun j q hq => by have := (h j q hq).1; omega
set_option maxRecDepth 100000 in
set_option maxHeartbeats 16000000 in
theorem finds_any (w : World) (v u : Value) (l : List CV) (used : List Int) (hC : Cls w v l) (hU : Its w u used) (hn : l.length ≤ maxLen) (hn' : used.length ≤ maxLen) (hpow : DgP.Pow w) :
    Calls Tryz.prog 3 #[v, u] w fun e w' => e = .returned (.bool true) ∧ Below w.heap.size w w' := by
  have CL := Lib.hid (light_any w v l 20 (by omega) hC hn)
  have CA := Lib.hid (fun W (hb : Below w.heap.size w W) => awake_l W (DgP.pow_below hpow hb))
  have HC := Lib.hid hC
  have HU := Lib.hid hU
  have HPW := Lib.hid hpow
  obtain ⟨A, cap, rfl, _⟩ := hC
  obtain ⟨Au, capu, rfl, _, _⟩ := hU
  unfold maxLen at hn hn'
  clear hpow
  cases hlb : lightB l 20 with
  | false =>
    rw [hlb] at CL
    clear hlb
    go_enter Tryz.func3, Tryz.ntmps3
    go_wp2_with fail
    refine CL.out.mono ?_
    rintro e w1 ⟨rfl, hw1⟩
    subst hw1
    go_wp2_with fail
    refine (CA.out w1 (Below.refl w1.heap.size w1)).mono ?_
    rintro e w2 ⟨rfl, hb2⟩
    have B2 := Lib.hid hb2
    clear hb2
    go_wp2_with fail
    go_ret
    exact ⟨rfl, B2.out⟩
  | true =>
    rw [hlb] at CL
    obtain ⟨hl20, hsm⟩ := small_of hlb (by omega)
    have HSM := Lib.hid hsm
    have hpl := plc_len l
    clear hlb hsm
    by_cases hu40 : used.length ≤ 40
    case neg =>
      go_enter Tryz.func3, Tryz.ntmps3
      go_wp2_with fail
      refine CL.out.mono ?_
      rintro e w1 ⟨rfl, hw1⟩
      subst hw1
      go_wp2_with fail
      refine (CA.out w1 (Below.refl w1.heap.size w1)).mono ?_
      rintro e w2 ⟨rfl, hb2⟩
      have B2 := Lib.hid hb2
      clear hb2
      go_wp2_with fail
      go_ret
      exact ⟨rfl, B2.out⟩
    have CN := Lib.hid (next_any w _ _ l used HC.out HU.out (by omega) (by omega))
    go_enter Tryz.func3, Tryz.ntmps3
    go_wp2_with fail
    refine CL.out.mono ?_
    rintro e w1 ⟨rfl, hw1⟩
    subst hw1
    go_wp2_with fail
    refine CN.out.mono ?_
    rintro e w2 ⟨v2, rfl, hi2, hb2⟩
    have I2 := Lib.hid hi2
    obtain ⟨A2, c2, e2⟩ := its_any hi2
    subst e2
    have B2 := Lib.hid hb2
    have CR := Lib.hid (nextR_any w2 _ _ l used (HC.out.below hb2) (HU.out.below hb2) (by omega) (by omega))
    clear hi2 hb2
    go_wp2_with fail
    refine CR.out.mono ?_
    rintro e w3 ⟨v3, rfl, hi3, hb3⟩
    have hnl : (nextM l used).length < 1000000 := Nat.lt_of_le_of_lt (List.length_filter_le _ _) (by omega)
    have C3 := ints_ref w3 _ _ _ _ (I2.out.below hb3) hi3 hnl hnl
    rw [decide_eq_true rfl] at C3
    obtain ⟨A3, c3, e3⟩ := its_any hi3
    subst e3
    have H3 := Lib.hid C3
    have B3 := Lib.hid (B2.out.trans (hb3.mono B2.out.size))
    clear hi3 hb3 C3 hnl
    go_wp2_with fail
    refine H3.out.mono ?_
    rintro e w4 ⟨rfl, hb4⟩
    have B4 := Lib.hid (B3.out.trans (hb4.mono B3.out.size))
    have CM := Lib.hid (mappedL_ref w4 _ l (HC.out.below B4.out) (by omega))
    clear hb4
    go_wp2_with fail
    refine CM.out.mono ?_
    rintro e w5 ⟨v5, rfl, ho5, hb5⟩
    obtain ⟨A5, c5, rfl⟩ := owns_shape ho5
    have B5 := Lib.hid (B4.out.trans (hb5.mono B4.out.size))
    obtain ⟨NP, hNP⟩ : ∃ x, x = (plc l).length := ⟨_, rfl⟩
    rw [← hNP] at hpl ⊢
    have HNP := Lib.hid hNP
    clear ho5 hb5 hNP
    by_cases hp4 : NP ≤ 4
    case neg =>
      go_wp2_with fail
      refine (CA.out w5 B5.out).mono ?_
      rintro e w6 ⟨rfl, hb6⟩
      have B6 := Lib.hid (B5.out.trans (hb6.mono B5.out.size))
      clear hb6
      go_wp2_with fail
      go_ret
      exact ⟨rfl, B6.out⟩
    by_cases hl7 : l.length ≤ 7
    case neg =>
      go_wp2_with fail
      refine (CA.out w5 B5.out).mono ?_
      rintro e w6 ⟨rfl, hb6⟩
      have B6 := Lib.hid (B5.out.trans (hb6.mono B5.out.size))
      clear hb6
      go_wp2_with fail
      go_ret
      exact ⟨rfl, B6.out⟩
    have HP4 := Lib.hid (show (plc l).length ≤ 4 by rw [← HNP.out]; exact hp4)
    have CF := Lib.hid (Find_any w5 _ l (HC.out.below B5.out) HSM.out (by have := HP4.out; omega) (by omega) (DgP.pow_below HPW.out B5.out))
    have HL1 := Lib.hid (find_len l false (plc l).length)
    have HL2 := Lib.hid (find_len l true (plc l).length)
    obtain ⟨r1, hr1⟩ : ∃ x, x = findM l false (plc l).length [] := ⟨_, rfl⟩
    obtain ⟨r2, hr2⟩ : ∃ x, x = findM l true (plc l).length [] := ⟨_, rfl⟩
    unfold FPost at CF
    rw [← hr1] at CF HL1
    rw [← hr2] at HL2
    have HR1 := Lib.hid hr1
    have HR2 := Lib.hid hr2
    clear hr1 hr2
    go_wp2_with fail
    refine CF.out.mono ?_
    rintro e w6 ⟨v6, rfl, hi6, hb6⟩
    have I6 := Lib.hid hi6
    obtain ⟨A6, c6, e6⟩ := its_any hi6
    subst e6
    have B6 := Lib.hid (B5.out.trans (hb6.mono B5.out.size))
    have CG := ref_any (tours := false) (small_hlp HSM.out) (by have := HP4.out; omega) (by omega) (plc l).length w6 _ (.slice none 0 0) [] (HC.out.below B6.out) (World.ownsRow_nil _ _ _ _) List.nodup_nil (fun a ha => by cases ha) (by simp)
    unfold RPost at CG
    rw [← HR1.out] at CG
    have HCG := Lib.hid CG
    clear hi6 hb6 CG
    go_wp2_with fail
    refine HCG.out.mono ?_
    rintro e w7 ⟨v7, rfl, hi7, hb7⟩
    have I7 := Lib.hid hi7
    obtain ⟨A7, c7, e7⟩ := its_any hi7
    subst e7
    have B7 := Lib.hid (B6.out.trans (hb7.mono B6.out.size))
    have I67 := Lib.hid (I6.out.below hb7)
    have CT := Tours_any w7 _ l (HC.out.below B7.out) HSM.out (by have := HP4.out; omega) (by omega) (DgP.pow_below HPW.out B7.out)
    unfold FPost at CT
    rw [← HR2.out] at CT
    have HCT := Lib.hid CT
    clear hi7 hb7 CT
    go_wp2_with fail
    refine HCT.out.mono ?_
    rintro e w8 ⟨v8, rfl, hi8, hb8⟩
    have I8 := Lib.hid hi8
    obtain ⟨A8, c8, e8⟩ := its_any hi8
    subst e8
    have B8 := Lib.hid (B7.out.trans (hb8.mono B7.out.size))
    have I68 := Lib.hid (I67.out.below hb8)
    have I78 := Lib.hid (I7.out.below hb8)
    have CH := ref_any (tours := true) (small_hlp HSM.out) (by have := HP4.out; omega) (by omega) (plc l).length w8 _ (.slice none 0 0) [] (HC.out.below B8.out) (World.ownsRow_nil _ _ _ _) List.nodup_nil (fun a ha => by cases ha) (by simp)
    unfold RPost at CH
    rw [← HR2.out] at CH
    have HCH := Lib.hid CH
    clear hi8 hb8 CH
    go_wp2_with fail
    refine HCH.out.mono ?_
    rintro e w9 ⟨v9, rfl, hi9, hb9⟩
    have I9 := Lib.hid hi9
    obtain ⟨A9, c9, e9⟩ := its_any hi9
    subst e9
    have B9 := Lib.hid (B8.out.trans (hb9.mono B8.out.size))
    have I89 := Lib.hid (I8.out.below hb9)
    have D1 := ints_ref w9 _ _ _ _ (I68.out.below hb9) (I78.out.below hb9) (by have := HL1.out; have := HP4.out; omega) (by have := HL1.out; have := HP4.out; omega)
    rw [decide_eq_true rfl] at D1
    have HD1 := Lib.hid D1
    obtain ⟨b1, hb1⟩ : ∃ x, x = r1.isSome := ⟨_, rfl⟩
    obtain ⟨b2, hb2⟩ : ∃ x, x = r2.isSome := ⟨_, rfl⟩
    rw [← hb1, ← hb2]
    clear hi9 hb9 D1 hb1 hb2
    have hbb1 : (b1 == b1) = true := by simp
    have hbb2 : (b2 == b2) = true := by simp
    go_wp2_with fail
    refine HD1.out.mono ?_
    rintro e w10 ⟨rfl, hb10⟩
    have B10 := Lib.hid (B9.out.trans (hb10.mono B9.out.size))
    have D2 := ints_ref w10 _ _ _ _ (I89.out.below hb10) (I9.out.below hb10) (by have := HL2.out; have := HP4.out; omega) (by have := HL2.out; have := HP4.out; omega)
    rw [decide_eq_true rfl] at D2
    have HD2 := Lib.hid D2
    clear hb10 D2
    go_wp2_with fail
    refine HD2.out.mono ?_
    rintro e w11 ⟨rfl, hb11⟩
    have B11 := Lib.hid (B10.out.trans (hb11.mono B10.out.size))
    clear hb11
    go_wp2_with fail
    refine (CA.out w11 B11.out).mono ?_
    rintro e w12 ⟨rfl, hb12⟩
    have B12 := Lib.hid (B11.out.trans (hb12.mono B11.out.size))
    clear hb12
    go_wp2_with fail
    go_ret
    exact ⟨rfl, B12.out⟩
theorem leR_at {a b : List Int} (h : leR a b = true) {x : Int} {t : List Int} (ha : a = x :: t) : ∃ y s, b = y :: s ∧ ¬ y < x ∧ (¬ x < y → leR t s = true) := by
  subst ha
  cases b with
  | nil => simp [leR] at h
  | cons y s =>
    refine ⟨y, s, rfl, ?_, ?_⟩
    · intro hlt
      unfold leR at h
      rw [if_pos hlt] at h
      cases h
    · intro hn
      unfold leR at h
      split at h
      · cases h
      · first | exact h | (rw [if_neg hn] at h; exact h)
theorem check_okRow {l : List CV} {row : List Int} (h : (checkM l row).2 = 0) : okRow l row = true := by unfold okRow; rw [decide_eq_true_eq]; exact h
set_option maxRecDepth 100000 in
set_option maxHeartbeats 16000000 in
theorem sound_any (w : World) (v u : Value) (l : List CV) (row : List Int) (hC : Cls w v l) (hU : Its w u row) (hn : l.length ≤ maxLen) (hn' : row.length ≤ maxLen) (hpow : DgP.Pow w) :
    Calls Tryz.prog 4 #[v, u] w fun e w' => e = .returned (.bool true) ∧ Below w.heap.size w w' := by
  have CL := Lib.hid (light_any w v l 9 (by omega) hC hn)
  have CA := Lib.hid (fun W (hb : Below w.heap.size w W) => awake_l W (DgP.pow_below hpow hb))
  have HC := Lib.hid hC
  have HU := Lib.hid hU
  have HPW := Lib.hid hpow
  obtain ⟨A, cap, rfl, _⟩ := hC
  obtain ⟨Au, capu, rfl, hcu, hcellu⟩ := hU
  have HCU := Lib.hid hcellu
  unfold maxLen at hn hn'
  clear hpow hcellu
  cases hlb : lightB l 9 with
  | false =>
    rw [hlb] at CL
    clear hlb
    go_enter Tryz.func4, Tryz.ntmps4
    go_wp2_with fail
    refine CL.out.mono ?_
    rintro e w1 ⟨rfl, hw1⟩
    subst hw1
    go_wp2_with fail
    refine (CA.out w1 (Below.refl w1.heap.size w1)).mono ?_
    rintro e w9 ⟨rfl, hb9⟩
    have B9 := Lib.hid hb9
    clear hb9
    go_wp2_with fail
    go_ret
    exact ⟨rfl, B9.out⟩
  | true =>
    rw [hlb] at CL
    obtain ⟨hl9, hsm⟩ := small_of hlb (by omega)
    have HSM := Lib.hid hsm
    have hpl := plc_len l
    clear hlb hsm
    by_cases hu20 : row.length ≤ 20
    case neg =>
      go_enter Tryz.func4, Tryz.ntmps4
      go_wp2_with fail
      refine CL.out.mono ?_
      rintro e w1 ⟨rfl, hw1⟩
      subst hw1
      go_wp2_with fail
      refine (CA.out w1 (Below.refl w1.heap.size w1)).mono ?_
      rintro e w9 ⟨rfl, hb9⟩
      have B9 := Lib.hid hb9
      clear hb9
      go_wp2_with fail
      go_ret
      exact ⟨rfl, B9.out⟩
    have CF := Find_any w _ l HC.out HSM.out (by omega) (by omega) HPW.out
    have HL1 := Lib.hid (find_len l false (plc l).length)
    have HLE := Lib.hid (show okRow l row = true → ∃ a, findM l false (plc l).length [] = some a ∧ leR a row = true from fun h => find_least h (plc l).length [] (List.nil_prefix) (by simp))
    have HOK := Lib.hid (show ∀ r, findM l false (plc l).length [] = some r → (checkM l r).2 = 0 from fun r h => by
      obtain ⟨_, h2⟩ := findM_some _ _ _ h
      unfold okT okRow at h2
      rw [Bool.and_eq_true, decide_eq_true_eq] at h2
      exact h2.1)
    obtain ⟨r1, hr1⟩ : ∃ x, x = findM l false (plc l).length [] := ⟨_, rfl⟩
    unfold FPost at CF
    rw [← hr1] at CF HL1 HLE HOK
    have HCF := Lib.hid CF
    clear CF hr1
    go_enter Tryz.func4, Tryz.ntmps4
    go_wp2_with fail
    refine CL.out.mono ?_
    rintro e w1 ⟨rfl, hw1⟩
    subst hw1
    go_wp2_with fail
    refine HCF.out.mono ?_
    rintro e w2 ⟨v2, rfl, hi2, hb2⟩
    have I2 := Lib.hid hi2
    obtain ⟨A2, c2, e2⟩ := its_any hi2
    subst e2
    have B2 := Lib.hid hb2
    clear hi2 hb2
    cases r1 with
    | none =>
      have CK := Lib.hid (check_any w2 _ _ l row (HC.out.below B2.out) (HU.out.below B2.out) (by omega) (by omega) (small_hlp HSM.out))
      obtain ⟨k1, hk1⟩ : ∃ x, x = (checkM l row).1 := ⟨_, rfl⟩
      obtain ⟨k2, hk2⟩ : ∃ x, x = (checkM l row).2 := ⟨_, rfl⟩
      rw [← hk1, ← hk2] at CK
      have h0 : k2 ≠ 0 := fun e => by
        obtain ⟨a, ha, _⟩ := HLE.out (check_okRow (hk2.symm.trans e))
        cases ha
      have hb0 : (k2 != 0) = true := by simpa using h0
      clear h0 hk1 hk2
      go_wp2_with fail
      refine CK.out.mono ?_
      rintro e w3 ⟨rfl, hb3⟩
      have B3 := Lib.hid (B2.out.trans (hb3.mono B2.out.size))
      clear hb3
      go_wp2_with fail
      refine (CA.out w3 B3.out).mono ?_
      rintro e w9 ⟨rfl, hb9⟩
      have B9 := Lib.hid (B3.out.trans (hb9.mono B3.out.size))
      clear hb9
      go_wp2_with fail
      go_ret
      exact ⟨rfl, B9.out⟩
    | some r =>
      have hl1 := HL1.out
      have e1 : (Option.getD (some r) ([] : List Int)).length = r.length := rfl
      have hr9 : r.length ≤ 9 := by rw [e1] at hl1; omega
      have I2' := Lib.hid (show Its w2 (.slice A2 r.length c2) r from I2.out)
      have CK := checkR_any w2 _ _ l r (HC.out.below B2.out) I2'.out (by omega) (by omega) (small_hlp HSM.out)
      rw [HOK.out r rfl] at CK
      have HCK := Lib.hid CK
      obtain ⟨m1, hm1⟩ : ∃ x, x = (checkM l r).1 := ⟨_, rfl⟩
      rw [← hm1] at HCK
      clear hl1 e1 CK hm1
      go_wp2_with fail
      refine HCK.out.mono ?_
      rintro e w3 ⟨rfl, hb3⟩
      have B3 := Lib.hid (B2.out.trans (hb3.mono B2.out.size))
      have I3 := Lib.hid (I2'.out.below hb3)
      have CO := Lib.hid (check_any w3 _ _ l row (HC.out.below B3.out) (HU.out.below B3.out) (by omega) (by omega) (small_hlp HSM.out))
      obtain ⟨k1, hk1⟩ : ∃ x, x = (checkM l row).1 := ⟨_, rfl⟩
      obtain ⟨k2, hk2⟩ : ∃ x, x = (checkM l row).2 := ⟨_, rfl⟩
      rw [← hk1, ← hk2] at CO
      have HK2 := Lib.hid hk2
      clear hb3 hk1 hk2
      by_cases h0 : k2 = 0
      case neg =>
        have hb0 : (k2 != 0) = true := by simpa using h0
        clear h0
        go_wp2_with fail
        refine CO.out.mono ?_
        rintro e w4 ⟨rfl, hb4⟩
        have B4 := Lib.hid (B3.out.trans (hb4.mono B3.out.size))
        clear hb4
        go_wp2_with fail
        refine (CA.out w4 B4.out).mono ?_
        rintro e w9 ⟨rfl, hb9⟩
        have B9 := Lib.hid (B4.out.trans (hb9.mono B4.out.size))
        clear hb9
        go_wp2_with fail
        go_ret
        exact ⟨rfl, B9.out⟩
      subst h0
      have HLR := Lib.hid (show leR r row = true by
        obtain ⟨a, ha, hle⟩ := HLE.out (check_okRow HK2.out.symm)
        injection ha with ha
        subst ha
        exact hle)
      go_wp2_with fail
      refine CO.out.mono ?_
      rintro e w4 ⟨rfl, hb4⟩
      have B4 := Lib.hid (B3.out.trans (hb4.mono B3.out.size))
      have I4 := Lib.hid (I3.out.below hb4)
      clear hb4
      go_wp2_with fail
      go_loopw [11] (fun i wr => ∃ k : Nat, k ≤ r.length ∧ i = .int .i64 k ∧ leR (r.drop k) (row.drop k) = true ∧ Below w4.heap.size w4 wr) (fun i _ => r.length - (intOf i).toNat)
      case atStart => exact ⟨0, Nat.zero_le _, rfl, HLR.out, Below.refl _ _⟩
      case round =>
        obtain ⟨k, hk, rfl, hle, hB⟩ := hrel
        have HB := Lib.hid hB
        have BW := Lib.hid (B4.out.trans (hB.mono B4.out.size))
        by_cases hp : k < r.length
        · obtain ⟨x, hx⟩ : ∃ x, r[k]? = some x := ⟨_, List.getElem?_eq_getElem hp⟩
          have hd : r.drop k = x :: r.drop (k + 1) := by
            rw [List.drop_eq_getElem_cons hp]
            rw [List.getElem?_eq_getElem hp] at hx
            injection hx with hx
            rw [hx]
          obtain ⟨y, s, hs, hyx, hxy⟩ := leR_at hle hd
          have hkr : k < row.length := by
            rcases Nat.lt_or_ge k row.length with h | h
            · exact h
            · rw [List.drop_eq_nil_of_le h] at hs; cases hs
          have hy : row[k]? = some y := by
            rw [List.drop_eq_getElem_cons hkr] at hs
            injection hs with h1 h2
            rw [List.getElem?_eq_getElem hkr, h1]
          have hs2 : s = row.drop (k + 1) := by
            rw [List.drop_eq_getElem_cons hkr] at hs
            injection hs with h1 h2
            exact h2.symm
          obtain ⟨b6, z6, e6, hbl6, c6⟩ := its_at (I4.out.below hB) hx
          obtain ⟨b7, z7, e7, hbl7, c7⟩ := HCU.out k y hy
          subst e6
          subst e7
          have q6 : ∀ p : BelowBy wr, World.cell? p.w ⟨b6, z6 + k, none⟩ = some (.int .i64 x) := fun p => p.cell hbl6 c6
          have q7 : ∀ p : BelowBy wr, World.cell? p.w ⟨b7, z7 + k, none⟩ = some (.int .i64 y) := fun p => p.cell (Nat.lt_of_lt_of_le hbl7 BW.out.size) ((BW.out.cell (p := ⟨b7, z7 + k, none⟩) hbl7).trans c7)
          have HXY := Lib.hid (show ¬ x < y → leR (r.drop (k + 1)) (row.drop (k + 1)) = true by rw [← hs2]; exact hxy)
          have hyx' : decide (y < x) = false := by simpa using hyx
          clear hx hd hs hs2 hxy hy hle hB c6 c7 hyx
          go_wp2_with fail
          refine wp_region_bel (by kernel_rfl) (by kernel_rfl) ?_
          repeat (first | go_big_quiet_step (fail) | quiet_step (fail))
          refine wpQuiet_nil ?_
          intro w5 hw'
          obtain ⟨p5, hp5⟩ := hw'
          have hb5 := p5.hb
          rw [← hp5] at hb5
          have q6' := fun p : BelowBy w5 => q6 ⟨p.w, hb5.trans (p.hb.mono hb5.size)⟩
          have q7' := fun p : BelowBy w5 => q7 ⟨p.w, hb5.trans (p.hb.mono hb5.size)⟩
          have B5 := Lib.hid (HB.out.trans (hb5.mono HB.out.size))
          dsimp only at q6' q7'
          clear hp5 hb5 q6 q7
          by_cases hxy : x < y
          · have hxy' : decide (x < y) = true := by simpa using hxy
            have BW5 := Lib.hid (B4.out.trans (B5.out.mono B4.out.size))
            go_wp2_with fail
            refine wp_region_bel (by kernel_rfl) (by kernel_rfl) ?_
            repeat (first | go_big_quiet_step (fail) | quiet_step (fail))
            refine wpQuiet_nil ?_
            intro w6 hw'
            obtain ⟨p6, hp6⟩ := hw'
            have hb6 := p6.hb
            rw [← hp6] at hb6
            have B6 := Lib.hid (BW5.out.trans (hb6.mono BW5.out.size))
            clear hp6 hb6 q6' q7'
            go_wp2_with fail
            refine (CA.out w6 B6.out).mono ?_
            rintro e w9 ⟨rfl, hb9⟩
            have B9 := Lib.hid (B6.out.trans (hb9.mono B6.out.size))
            clear hb9
            go_wp2_with fail
            go_ret
            exact ⟨rfl, B9.out⟩
          · have hxy' : decide (x < y) = false := by simpa using hxy
            have HN := Lib.hid (HXY.out (by omega))
            go_wp2_with fail
            refine wp_region_bel (by kernel_rfl) (by kernel_rfl) ?_
            repeat (first | go_big_quiet_step (fail) | quiet_step (fail))
            refine wpQuiet_nil ?_
            intro w6 hw'
            obtain ⟨p6, hp6⟩ := hw'
            have hb6 := p6.hb
            rw [← hp6] at hb6
            have B6 := Lib.hid (B5.out.trans (hb6.mono B5.out.size))
            clear hp6 hb6 q6' q7'
            go_wp2_with fail
            exact ⟨⟨k + 1, by omega, by go_num, HN.out, B6.out⟩, by show r.length - ((k : Int) + 1).toNat < r.length - (k : Int).toNat; omega⟩
        · obtain rfl : k = r.length := by omega
          clear hB hle
          go_wp2_with fail
          refine (CA.out wr BW.out).mono ?_
          rintro e w9 ⟨rfl, hb9⟩
          have B9 := Lib.hid (BW.out.trans (hb9.mono BW.out.size))
          clear hb9
          go_wp2_with fail
          go_ret
          exact ⟨rfl, B9.out⟩
end Go.Proofs.YtdhgacionopghaaGreatDoor.Ln
namespace Go.Proofs.YtdhgacionopghaaGreatDoor.LnTab
open Go.RowKit
theorem gp : Tryz.prog.globalNamed "internal/strconv.uint64pow10" = some 0 := by kernel_rfl
theorem tp : (Tryz.prog.globals[0]?).map (·.type) = some 142 := by kernel_rfl
theorem cA : Tryz.prog.cellsOf 142 = 20 := by kernel_rfl
theorem cE : Tryz.prog.cellsOf 62 = 1 := by kernel_rfl
theorem uA : Tryz.prog.underlying 142 = some (.array 20 62) := by kernel_rfl
theorem pow_data : (Rows.laid_internal_strconv_uint64pow10 : DataW Unit) = Lib.tabData .u64 Lib.pow10Tab := rfl
theorem pow_of_reads {W : World} (h : Lib.VarReads Tryz.prog W "internal/strconv.uint64pow10" Rows.laid_internal_strconv_uint64pow10) : DgP.Pow W := by
  obtain ⟨g, t, cs, fuel, p, h1, h2, h3, h4⟩ := h
  obtain rfl := Option.some.inj (gp.symm.trans h1)
  obtain rfl := Option.some.inj (tp.symm.trans h2)
  rw [pow_data] at h4
  have hcs := Lib.cells_of_tab uA Tryz.underlying62 cE cA h4
  show W.var? Tryz.prog _ = _
  rw [h3, ← hcs]
/-- The condition of the lin rows. -/
abbrev linLaid : List (String × DataW Unit) := [("math/bits.deBruijn32tab", Rows.laid_math_bits_deBruijn32tab), ("math/bits.deBruijn64tab", Rows.laid_math_bits_deBruijn64tab), ("internal/strconv.uint64pow10", Rows.laid_internal_strconv_uint64pow10)]
theorem vars_of_laid {W : World} (h : laidMet Tryz.prog linLaid W) : DgP.Pow W :=
  pow_of_reads (Lib.laidMet.reads h (by simp [linLaid]))
/-- The cells of a datum of numbers and texts, flat. -/
def flat : Nat → DataW Unit → List Value
  | 0, _ => []
  | n + 1, .agg l => l.flatMap (flat n)
  | _, .lit (.int k z) => [.int k z]
  | _, .lit (.string s) => [.string ⟨s.toArray⟩]
  | _, _ => []
def lay (g : Nat) (vs : List Value) (h : Array Obj) : Array Obj := h.modify g fun
      | .cells _ t frozen => .cells vs.toArray t frozen
      | o => o
/-- A world that meets the condition: the settled one, the tables' cells laid. -/
noncomputable def laidWorld (os : Os) : World :=
  let w0 := World.holding Tryz.prog os ⟨#[], #[], []⟩
  { w0 with heap := lay 0 (flat 3 Rows.laid_internal_strconv_uint64pow10) <| lay 1 (flat 3 Rows.laid_math_bits_deBruijn32tab) <| lay 2 (flat 3 Rows.laid_math_bits_deBruijn64tab) w0.heap }
set_option maxRecDepth 1000000 in
theorem laid_met (os : Os) (args : Array Value) : laidMet Tryz.prog linLaid ((laidWorld os).forCall (fun _ _ => 0) ⟨#[], args, []⟩).memory :=
  laidMet_of_run3 8 (by kernel_rfl) (by kernel_rfl) (by kernel_rfl)
theorem finds_walk (W : World) (hT : DgP.Pow W) (v : Value) (l : List Od.CV) (f : Od.Cls W v l) (h : l.length ≤ maxLen) (u : Value) (row : List Int) (f' : Od.Its W u row) (h' : row.length ≤ maxLen) :
    Calls Tryz.prog 3 #[v, u] W fun e w' => e = .returned (.bool true) ∧ Below W.heap.size W w' := Ln.finds_any W v u l row f f' h h' hT
theorem sound_walk (W : World) (hT : DgP.Pow W) (v : Value) (l : List Od.CV) (f : Od.Cls W v l) (h : l.length ≤ maxLen) (u : Value) (row : List Int) (f' : Od.Its W u row) (h' : row.length ≤ maxLen) :
    Calls Tryz.prog 4 #[v, u] W fun e w' => e = .returned (.bool true) ∧ Below W.heap.size W w' := Ln.sound_any W v u l row f f' h h' hT
end Go.Proofs.YtdhgacionopghaaGreatDoor.LnTab
