/- order: Index, Contains, IndexFunc, ContainsFunc, with the closures of order. -/
import Derived.Test.YtdhgacionopghaaGreatDoorOrdCheck
namespace Go.Proofs.YtdhgacionopghaaGreatDoor.Od
open Go.RowKit Go.Shelf Dc DcM DcW DcI DcR DcL Sp
set_option linter.unusedVariables false
theorem below_drewN {B : Nat} {a w : World} (h : Below B a w) (n : Nat) : Below B a (w.drewN n) := ⟨h.os, h.tape, h.output, h.size, h.block⟩
theorem prs_at {w : World} {A : Option Addr} {n cap k : Nat} {l : List Pr} {p : Pr} (h : Prs w (.slice A n cap) l) (hp : l[k]? = some p) : ∃ b o, A = some ⟨b, o, none⟩ ∧ w.cell? ⟨b, o + k * 2, none⟩ = some (.string p.1) ∧ w.cell? ⟨b, o + k * 2 + 1, none⟩ = some (.string p.2) := by
  obtain ⟨A', cap', e, _, hc⟩ := h
  injection e with e1 e2 e3
  subst e1
  exact hc k p hp
def hasPair (l : List Pr) (p : Pr) : Bool := l.any fun q => decide (q = p)
def hasKey (l : List Pr) (k : ByteArray) : Bool := l.any fun q => decide (q.1 = k)
def IdxAt (b : Bool) (e : Ending) : Prop := ∃ n : Int, e = .returned (.int .i64 n) ∧ decide (0 ≤ n) = b ∧ -1 ≤ n ∧ n < 1000000
theorem any_end {α : Type} {l : List α} {k : Nat} {f : α → Bool} (h : (l.take k).any f = false) (hk : l.length ≤ k) : l.any f = false := by
  rwa [List.take_of_length_le hk] at h
theorem any_yes {α : Type} {l : List α} {k : Nat} {q : α} {f : α → Bool} (hq : l[k]? = some q) (h : f q = true) : l.any f = true := by
  rw [List.any_eq_true]; exact ⟨q, List.mem_of_getElem? hq, h⟩
theorem eql_pair (a b c d : ByteArray) (w : World) : (binOp .eql 74 (.agg #[.string a, .string b]) (.agg #[.string c, .string d])).run Tryz.prog w = .ok (.bool (decide ((a, b) = (c, d)))) w := by
  rw [run_eql_struct, pair_eq]
  simp only [Result.andThen_ok, beq_lists, Prod.mk.injEq]
  by_cases h : a = c <;> by_cases g : b = d <;> simp [h, g]
/-- A row of maps lies in w. -/
def Rws (w : World) (v : Value) (ms : List (List Pr)) : Prop := ∃ (A : Option Addr) (cap : Nat), v = .slice A ms.length cap ∧ ∀ (j : Nat) (m : List Pr), ms[j]? = some m → m.length < 1000000 ∧ ∃ b z u, A = some ⟨b, z, none⟩ ∧ b < w.heap.size ∧ w.cell? ⟨b, z + j, none⟩ = some u ∧ Prs w u m
theorem Rws.below {w w' : World} {v : Value} {ms : List (List Pr)} (h : Rws w v ms) (hb : Below w.heap.size w w') : Rws w' v ms := by
  obtain ⟨A, cap, rfl, hc⟩ := h
  refine ⟨A, cap, rfl, fun j m hm => ?_⟩
  obtain ⟨h1, b, z, u, hz, hbl, hcell, hp⟩ := hc j m hm
  exact ⟨h1, b, z, u, hz, Nat.lt_of_lt_of_le hbl hb.size, (hb.cell (p := ⟨b, z + j, none⟩) hbl).trans hcell, hp.below hb⟩
theorem rws_at {w : World} {A : Option Addr} {n cap j : Nat} {ms : List (List Pr)} {m : List Pr} (h : Rws w (.slice A n cap) ms) (hm : ms[j]? = some m) : m.length < 1000000 ∧ ∃ b z u, A = some ⟨b, z, none⟩ ∧ b < w.heap.size ∧ w.cell? ⟨b, z + j, none⟩ = some u ∧ Prs w u m := by
  obtain ⟨A', cap', e, hc⟩ := h
  injection e with e1 e2 e3
  subst e1
  exact hc j m hm

set_option maxHeartbeats 4000000 in
theorem index_any (w : World) (v : Value) (l : List Pr) (p1 p2 : ByteArray) (h : Prs w v l) (hn : l.length < 1000000) :
    Calls Tryz.prog 96 #[v, .agg #[.string p1, .string p2]] w fun e w' => IdxAt (hasPair l (p1, p2)) e ∧ Below w.heap.size w w' := by
  have HP := Lib.hid h
  obtain ⟨A, cap, rfl, _, _⟩ := h
  have B0 := Lib.hid ((Below.refl w.heap.size w).alloc (Nat.le_refl _) (.cells #[.string p1, .string p2] 74))
  go_enter Tryz.func96, Tryz.ntmps96
  go_wp2_with fail
  go_loopw [8] (fun i wr => ∃ k : Nat, k ≤ l.length ∧ i = .int .i64 k ∧ (l.take k).any (fun q => decide (q = (p1, p2))) = false ∧ ∃ n, wr = (w.alloc (.cells #[.string p1, .string p2] 74)).drewN n) (fun i _ => l.length - (intOf i).toNat)
  case atStart => exact ⟨0, by omega, rfl, rfl, 0, rfl⟩
  case round =>
    obtain ⟨k, hk, rfl, hs, n, rfl⟩ := hrel
    have HS := Lib.hid hs
    clear hs
    by_cases hp : k < l.length
    · obtain ⟨p, hp2⟩ : ∃ p, l[k]? = some p := ⟨_, List.getElem?_eq_getElem (by omega)⟩
      obtain ⟨b, o, rfl, c1, c2⟩ := prs_at (HP.out.below B0.out) hp2
      have HH := Lib.hid hp2
      clear hp2
      by_cases he : p = (p1, p2)
      · have hnq : ∀ w, (binOp .eql 74 (.agg #[.string p1, .string p2]) (.agg #[.string p.1, .string p.2])).run Tryz.prog w = .ok (.bool true) w := fun w => by rw [eql_pair, he]; simp
        have HE := Lib.hid (show hasPair l (p1, p2) = true from any_yes HH.out (by simp [he]))
        clear he
        go_wp2
        go_quiet (fail)
        go_wp2
        go_ret
        refine ⟨⟨k, rfl, by rw [HE.out]; simp, by omega, by omega⟩, ?_⟩
        exact below_drewN (below_drewN B0.out n) nq
      · have hnq : ∀ w, (binOp .eql 74 (.agg #[.string p1, .string p2]) (.agg #[.string p.1, .string p.2])).run Tryz.prog w = .ok (.bool false) w := fun w => by rw [eql_pair, decide_eq_false (fun e => he e.symm)]
        have HE := Lib.hid (show (l.take (k + 1)).any (fun q => decide (q = (p1, p2))) = false by rw [any_snoc HH.out HS.out]; simp [he])
        clear he
        go_wp2
        go_quiet (fail)
        go_wp2
        exact ⟨⟨k + 1, by omega, by go_num, HE.out, n + nq, rfl⟩, by show l.length - ((k : Int) + 1).toNat < l.length - (k : Int).toNat; omega⟩
    · have HE := Lib.hid (show hasPair l (p1, p2) = false from any_end HS.out (by omega))
      go_wp2
      go_ret
      exact ⟨⟨-1, rfl, by rw [HE.out]; rfl, by omega, by omega⟩, below_drewN B0.out n⟩
theorem contains_any (w : World) (v : Value) (l : List Pr) (p1 p2 : ByteArray) (h : Prs w v l) (hn : l.length < 1000000) :
    Calls Tryz.prog 88 #[v, .agg #[.string p1, .string p2]] w fun e w' => e = .returned (.bool (hasPair l (p1, p2))) ∧ Below w.heap.size w w' := by
  have C := fun W (hw : Prs W v l) => index_any W v l p1 p2 hw hn
  have HP := Lib.hid h
  obtain ⟨A, cap, rfl, _, _⟩ := h
  have B0 := Lib.hid ((Below.refl w.heap.size w).alloc (Nat.le_refl _) (.cells #[.string p1, .string p2] 74))
  have HC := Lib.hid C
  clear C
  go_enter Tryz.func88, Tryz.ntmps88
  go_wp2_with fail
  refine (HC.out _ (HP.out.below B0.out)).mono ?_
  rintro e w1 ⟨⟨n, rfl, hd, h1, h2⟩, hb⟩
  have HD := Lib.hid hd
  have HB := Lib.hid (B0.out.trans (hb.mono B0.out.size))
  clear hd hb
  go_wp2_with fail
  go_ret
  exact ⟨bool_ret HD.out, HB.out⟩

set_option maxHeartbeats 4000000 in
theorem clos_always (w : World) (q1 q2 k : ByteArray) (pb : Nat) (hc : w.cell? ⟨pb, 0, none⟩ = some (.string k)) (hpb : pb < w.heap.size) :
    Calls Tryz.prog 97 #[.agg #[.string q1, .string q2], .pointer (some ⟨pb, 0, none⟩)] w fun e w' => e = .returned (.bool (decide (q1 = k))) ∧ Below w.heap.size w w' := by
  have hc1 : (w.alloc (.cells #[.string q1, .string q2] 74)).cell? ⟨pb, 0, none⟩ = some (.string k) := (((Below.refl w.heap.size w).alloc (Nat.le_refl _) (.cells #[.string q1, .string q2] 74)).cell (p := ⟨pb, 0, none⟩) hpb).trans hc
  have B0 := Lib.hid ((Below.refl w.heap.size w).alloc (Nat.le_refl _) (.cells #[.string q1, .string q2] 74))
  clear hc
  go_enter Tryz.func97, Tryz.ntmps97
  go_wp2_with fail
  go_ret
  exact ⟨bool_ret (by rw [beq_lists]), B0.out⟩

set_option maxHeartbeats 4000000 in
theorem clos_key (w : World) (q1 q2 k : ByteArray) (pb : Nat) (hc : w.cell? ⟨pb, 0, none⟩ = some (.string k)) (hpb : pb < w.heap.size) :
    Calls Tryz.prog 91 #[.agg #[.string q1, .string q2], .pointer (some ⟨pb, 0, none⟩)] w fun e w' => e = .returned (.bool (decide (q1 = k))) ∧ Below w.heap.size w w' := by
  have hc1 : (w.alloc (.cells #[.string q1, .string q2] 74)).cell? ⟨pb, 0, none⟩ = some (.string k) := (((Below.refl w.heap.size w).alloc (Nat.le_refl _) (.cells #[.string q1, .string q2] 74)).cell (p := ⟨pb, 0, none⟩) hpb).trans hc
  have B0 := Lib.hid ((Below.refl w.heap.size w).alloc (Nat.le_refl _) (.cells #[.string q1, .string q2] 74))
  clear hc
  have hnq : ∀ w, (binOp .eql 74 (.agg #[.string q1, .string q2]) (.agg #[.string k, .string q2])).run Tryz.prog w = .ok (.bool (decide (q1 = k))) w := fun w => by rw [eql_pair]; simp
  go_enter Tryz.func91, Tryz.ntmps91
  go_wp2_with fail
  go_ret
  exact ⟨rfl, B0.out⟩

set_option maxHeartbeats 4000000 in
theorem indexf_always (w : World) (v : Value) (l : List Pr) (k : ByteArray) (pb : Nat) (h : Prs w v l) (hn : l.length < 1000000) (hc : w.cell? ⟨pb, 0, none⟩ = some (.string k)) (hpb : pb < w.heap.size) :
    Calls Tryz.prog 98 #[v, .func (.func 97) #[] #[.pointer (some ⟨pb, 0, none⟩)]] w fun e w' => IdxAt (hasKey l k) e ∧ Below w.heap.size w w' := by
  have HP := Lib.hid h
  have HC := Lib.hid hc
  obtain ⟨A, cap, rfl, _, _⟩ := h
  clear hc
  go_enter Tryz.func98, Tryz.ntmps98
  go_wp2_with fail
  go_loopw [8] (fun i wr => ∃ j : Nat, j ≤ l.length ∧ i = .int .i64 j ∧ (l.take j).any (fun q => decide (q.1 = k)) = false ∧ Below w.heap.size w wr) (fun i _ => l.length - (intOf i).toNat)
  case atStart => exact ⟨0, by omega, rfl, rfl, Below.refl _ _⟩
  case round =>
    obtain ⟨j, hj, rfl, hs, hB⟩ := hrel
    have HS := Lib.hid hs
    have HB := Lib.hid hB
    clear hs
    by_cases hp : j < l.length
    · obtain ⟨p, hp2⟩ : ∃ p, l[j]? = some p := ⟨_, List.getElem?_eq_getElem (by omega)⟩
      obtain ⟨b, o, rfl, c1, c2⟩ := prs_at (HP.out.below hB) hp2
      have HH := Lib.hid hp2
      clear hp2 hB
      go_wp2_with fail
      refine (clos_always _ p.1 p.2 k pb ((HB.out.cell (p := ⟨pb, 0, none⟩) hpb).trans HC.out) (Nat.lt_of_lt_of_le hpb HB.out.size)).mono ?_
      cases he : decide (p.1 = k) with
      | true =>
        rintro e w1 ⟨rfl, hb1⟩
        have HE := Lib.hid (show hasKey l k = true from any_yes HH.out he)
        have B1 := Lib.hid (HB.out.trans (hb1.mono HB.out.size))
        clear he hb1
        go_wp2_with fail
        go_ret
        exact ⟨⟨j, rfl, by rw [HE.out]; simp, by omega, by omega⟩, B1.out⟩
      | false =>
        rintro e w1 ⟨rfl, hb1⟩
        have HE := Lib.hid (show (l.take (j + 1)).any (fun q => decide (q.1 = k)) = false by rw [any_snoc HH.out HS.out]; exact he)
        have B1 := Lib.hid (HB.out.trans (hb1.mono HB.out.size))
        clear he hb1
        go_wp2_with fail
        exact ⟨⟨j + 1, by omega, by go_num, HE.out, B1.out⟩, by show l.length - ((j : Int) + 1).toNat < l.length - (j : Int).toNat; omega⟩
    · have HE := Lib.hid (show hasKey l k = false from any_end HS.out (by omega))
      clear hB
      go_wp2_with fail
      go_ret
      exact ⟨⟨-1, rfl, by rw [HE.out]; rfl, by omega, by omega⟩, HB.out⟩
set_option maxHeartbeats 4000000 in
theorem containsf_always (w : World) (v : Value) (l : List Pr) (k : ByteArray) (pb : Nat) (h : Prs w v l) (hn : l.length < 1000000) (hc : w.cell? ⟨pb, 0, none⟩ = some (.string k)) (hpb : pb < w.heap.size) :
    Calls Tryz.prog 90 #[v, .func (.func 97) #[] #[.pointer (some ⟨pb, 0, none⟩)]] w fun e w' => e = .returned (.bool (hasKey l k)) ∧ Below w.heap.size w w' := by
  have HC := Lib.hid (indexf_always w v l k pb h hn hc hpb)
  obtain ⟨A, cap, rfl, _, _⟩ := h
  clear hc
  go_enter Tryz.func90, Tryz.ntmps90
  go_wp2_with fail
  refine HC.out.mono ?_
  rintro e w1 ⟨⟨n, rfl, hd, h1, h2⟩, hb⟩
  have HD := Lib.hid hd
  have HB := Lib.hid hb
  clear hd hb
  go_wp2_with fail
  go_ret
  exact ⟨bool_ret HD.out, HB.out⟩

set_option maxHeartbeats 4000000 in
theorem indexf_key (w : World) (v : Value) (l : List Pr) (k : ByteArray) (pb : Nat) (h : Prs w v l) (hn : l.length < 1000000) (hc : w.cell? ⟨pb, 0, none⟩ = some (.string k)) (hpb : pb < w.heap.size) :
    Calls Tryz.prog 98 #[v, .func (.func 91) #[] #[.pointer (some ⟨pb, 0, none⟩)]] w fun e w' => IdxAt (hasKey l k) e ∧ Below w.heap.size w w' := by
  have HP := Lib.hid h
  have HC := Lib.hid hc
  obtain ⟨A, cap, rfl, _, _⟩ := h
  clear hc
  go_enter Tryz.func98, Tryz.ntmps98
  go_wp2_with fail
  go_loopw [8] (fun i wr => ∃ j : Nat, j ≤ l.length ∧ i = .int .i64 j ∧ (l.take j).any (fun q => decide (q.1 = k)) = false ∧ Below w.heap.size w wr) (fun i _ => l.length - (intOf i).toNat)
  case atStart => exact ⟨0, by omega, rfl, rfl, Below.refl _ _⟩
  case round =>
    obtain ⟨j, hj, rfl, hs, hB⟩ := hrel
    have HS := Lib.hid hs
    have HB := Lib.hid hB
    clear hs
    by_cases hp : j < l.length
    · obtain ⟨p, hp2⟩ : ∃ p, l[j]? = some p := ⟨_, List.getElem?_eq_getElem (by omega)⟩
      obtain ⟨b, o, rfl, c1, c2⟩ := prs_at (HP.out.below hB) hp2
      have HH := Lib.hid hp2
      clear hp2 hB
      go_wp2_with fail
      refine (clos_key _ p.1 p.2 k pb ((HB.out.cell (p := ⟨pb, 0, none⟩) hpb).trans HC.out) (Nat.lt_of_lt_of_le hpb HB.out.size)).mono ?_
      cases he : decide (p.1 = k) with
      | true =>
        rintro e w1 ⟨rfl, hb1⟩
        have HE := Lib.hid (show hasKey l k = true from any_yes HH.out he)
        have B1 := Lib.hid (HB.out.trans (hb1.mono HB.out.size))
        clear he hb1
        go_wp2_with fail
        go_ret
        exact ⟨⟨j, rfl, by rw [HE.out]; simp, by omega, by omega⟩, B1.out⟩
      | false =>
        rintro e w1 ⟨rfl, hb1⟩
        have HE := Lib.hid (show (l.take (j + 1)).any (fun q => decide (q.1 = k)) = false by rw [any_snoc HH.out HS.out]; exact he)
        have B1 := Lib.hid (HB.out.trans (hb1.mono HB.out.size))
        clear he hb1
        go_wp2_with fail
        exact ⟨⟨j + 1, by omega, by go_num, HE.out, B1.out⟩, by show l.length - ((j : Int) + 1).toNat < l.length - (j : Int).toNat; omega⟩
    · have HE := Lib.hid (show hasKey l k = false from any_end HS.out (by omega))
      clear hB
      go_wp2_with fail
      go_ret
      exact ⟨⟨-1, rfl, by rw [HE.out]; rfl, by omega, by omega⟩, HB.out⟩
set_option maxHeartbeats 4000000 in
theorem containsf_key (w : World) (v : Value) (l : List Pr) (k : ByteArray) (pb : Nat) (h : Prs w v l) (hn : l.length < 1000000) (hc : w.cell? ⟨pb, 0, none⟩ = some (.string k)) (hpb : pb < w.heap.size) :
    Calls Tryz.prog 90 #[v, .func (.func 91) #[] #[.pointer (some ⟨pb, 0, none⟩)]] w fun e w' => e = .returned (.bool (hasKey l k)) ∧ Below w.heap.size w w' := by
  have HC := Lib.hid (indexf_key w v l k pb h hn hc hpb)
  obtain ⟨A, cap, rfl, _, _⟩ := h
  clear hc
  go_enter Tryz.func90, Tryz.ntmps90
  go_wp2_with fail
  refine HC.out.mono ?_
  rintro e w1 ⟨⟨n, rfl, hd, h1, h2⟩, hb⟩
  have HD := Lib.hid hd
  have HB := Lib.hid hb
  clear hd hb
  go_wp2_with fail
  go_ret
  exact ⟨bool_ret HD.out, HB.out⟩

set_option maxHeartbeats 4000000 in
theorem clos_row (w : World) (u : Value) (m : List Pr) (p1 p2 : ByteArray) (pb : Nat) (h : Prs w u m) (hn : m.length < 1000000) (hc0 : w.cell? ⟨pb, 0, none⟩ = some (.string p1)) (hc1 : w.cell? ⟨pb, 1, none⟩ = some (.string p2)) :
    Calls Tryz.prog 87 #[u, .pointer (some ⟨pb, 0, none⟩)] w fun e w' => e = .returned (.bool (hasPair m (p1, p2))) ∧ Below w.heap.size w w' := by
  have HC := Lib.hid (contains_any w u m p1 p2 h hn)
  obtain ⟨A, cap, rfl, _, _⟩ := h
  go_enter Tryz.func87, Tryz.ntmps87
  go_wp2_with fail
  refine HC.out.mono ?_
  rintro e w1 ⟨rfl, hb⟩
  have HB := Lib.hid hb
  clear hb hc0 hc1
  go_wp2_with fail
  go_ret
  exact ⟨rfl, HB.out⟩
set_option maxHeartbeats 4000000 in
theorem indexf_row (w : World) (v : Value) (ms : List (List Pr)) (p1 p2 : ByteArray) (pb : Nat) (h : Rws w v ms) (hn : ms.length < 1000000) (hc0 : w.cell? ⟨pb, 0, none⟩ = some (.string p1)) (hc1 : w.cell? ⟨pb, 1, none⟩ = some (.string p2)) (hpb : pb < w.heap.size) :
    Calls Tryz.prog 95 #[v, .func (.func 87) #[] #[.pointer (some ⟨pb, 0, none⟩)]] w fun e w' => IdxAt (ms.any fun m => hasPair m (p1, p2)) e ∧ Below w.heap.size w w' := by
  have HP := Lib.hid h
  have HC0 := Lib.hid hc0
  have HC1 := Lib.hid hc1
  obtain ⟨A, cap, rfl, _⟩ := h
  clear hc0 hc1
  go_enter Tryz.func95, Tryz.ntmps95
  go_wp2_with fail
  go_loopw [8] (fun i wr => ∃ j : Nat, j ≤ ms.length ∧ i = .int .i64 j ∧ (ms.take j).any (fun m => hasPair m (p1, p2)) = false ∧ Below w.heap.size w wr) (fun i _ => ms.length - (intOf i).toNat)
  case atStart => exact ⟨0, by omega, rfl, rfl, Below.refl _ _⟩
  case round =>
    obtain ⟨j, hj, rfl, hs, hB⟩ := hrel
    have HS := Lib.hid hs
    have HB := Lib.hid hB
    clear hs
    by_cases hp : j < ms.length
    · obtain ⟨m, hm⟩ : ∃ m, ms[j]? = some m := ⟨_, List.getElem?_eq_getElem (by omega)⟩
      obtain ⟨hml, b, z, u, rfl, hbl, hcell, hpr⟩ := rws_at (HP.out.below hB) hm
      have HH := Lib.hid hm
      have HPR := Lib.hid hpr
      obtain ⟨Au, cu, rfl, _, _⟩ := hpr
      clear hm hB
      go_wp2_with fail
      refine (clos_row _ _ m p1 p2 pb HPR.out hml ((HB.out.cell (p := ⟨pb, 0, none⟩) hpb).trans HC0.out) ((HB.out.cell (p := ⟨pb, 1, none⟩) hpb).trans HC1.out)).mono ?_
      cases he : hasPair m (p1, p2) with
      | true =>
        rintro e w1 ⟨rfl, hb1⟩
        have HE := Lib.hid (show (ms.any fun m => hasPair m (p1, p2)) = true from any_yes HH.out he)
        have B1 := Lib.hid (HB.out.trans (hb1.mono HB.out.size))
        clear he hb1
        go_wp2_with fail
        go_ret
        exact ⟨⟨j, rfl, by rw [HE.out]; simp, by omega, by omega⟩, B1.out⟩
      | false =>
        rintro e w1 ⟨rfl, hb1⟩
        have HE := Lib.hid (show (ms.take (j + 1)).any (fun m => hasPair m (p1, p2)) = false by rw [any_snoc HH.out HS.out]; exact he)
        have B1 := Lib.hid (HB.out.trans (hb1.mono HB.out.size))
        clear he hb1
        go_wp2_with fail
        exact ⟨⟨j + 1, by omega, by go_num, HE.out, B1.out⟩, by show ms.length - ((j : Int) + 1).toNat < ms.length - (j : Int).toNat; omega⟩
    · have HE := Lib.hid (show (ms.any fun m => hasPair m (p1, p2)) = false from any_end HS.out (by omega))
      clear hB
      go_wp2_with fail
      go_ret
      exact ⟨⟨-1, rfl, by rw [HE.out]; rfl, by omega, by omega⟩, HB.out⟩
set_option maxHeartbeats 4000000 in
theorem containsf_row (w : World) (v : Value) (ms : List (List Pr)) (p1 p2 : ByteArray) (pb : Nat) (h : Rws w v ms) (hn : ms.length < 1000000) (hc0 : w.cell? ⟨pb, 0, none⟩ = some (.string p1)) (hc1 : w.cell? ⟨pb, 1, none⟩ = some (.string p2)) (hpb : pb < w.heap.size) :
    Calls Tryz.prog 86 #[v, .func (.func 87) #[] #[.pointer (some ⟨pb, 0, none⟩)]] w fun e w' => e = .returned (.bool (ms.any fun m => hasPair m (p1, p2))) ∧ Below w.heap.size w w' := by
  have HC := Lib.hid (indexf_row w v ms p1 p2 pb h hn hc0 hc1 hpb)
  obtain ⟨A, cap, rfl, _⟩ := h
  clear hc0 hc1
  go_enter Tryz.func86, Tryz.ntmps86
  go_wp2_with fail
  refine HC.out.mono ?_
  rintro e w1 ⟨⟨n, rfl, hd, h1, h2⟩, hb⟩
  have HD := Lib.hid hd
  have HB := Lib.hid hb
  clear hd hb
  go_wp2_with fail
  go_ret
  exact ⟨bool_ret HD.out, HB.out⟩
end Go.Proofs.YtdhgacionopghaaGreatDoor.Od
