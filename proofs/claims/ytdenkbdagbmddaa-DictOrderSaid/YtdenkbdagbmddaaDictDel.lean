/- dict: the walk of Delete; Put, whether the key is there or not. -/
import Derived.Test.YtdenkbdagbmddaaDictOld
namespace Go.Proofs.Ytdenkbdagbmddaa.DcW
open Go.RowKit Go.Shelf Dc DcM
set_option linter.unusedVariables false
theorem put_any (w : World) (n0 g : Nat) (kb vb : Option Nat) (l : List Pr) (key v : ByteArray) (hD : IsD w n0 g kb vb l) (hs : Sorted l) (hn : l.length < 1000000) (h0 : n0 ≤ w.heap.size) :
    Calls Try.prog 6 #[.pointer (some ⟨g, 0, none⟩), .string key, .string v] w fun e w' => e = .returned (.tuple #[.string (dget l key).1, .bool (dget l key).2]) ∧ ∃ kb' vb', IsD w' n0 g kb' vb' (put l key v) ∧ Keeps w w' (Foot g kb vb) ∧ Fresh w kb kb' ∧ Fresh w vb vb' := by
  cases hh : has l key with
  | false =>
    have hg : dget l key = (⟨#[]⟩, false) := by simp [dget, at_of_not hh]
    rw [hg]
    exact put_new w n0 g kb vb l key v hD hs hn h0 hh
  | true =>
    obtain ⟨u, ha⟩ := at_of_has hs hh
    have hg : dget l key = (u, true) := by simp [dget, ha]
    rw [hg]
    exact (put_old w n0 g kb vb l key v u hD hs hn hh ha).mono fun e w' ⟨he, a, b⟩ => ⟨he, kb, vb, a, b, Or.inl rfl, Or.inl rfl⟩
theorem keys_del {l : List Pr} {key u : ByteArray} (hs : Sorted l) (ha : at_ key l = [(key, u)]) : (l.map (·.1)).take (rank key l) ++ (l.map (·.1)).drop (rank key l + 1) = (del l key).map (·.1) := by
  rw [← List.map_take, ← List.map_drop, take_rank hs, (rank_at hs ha).2.2]
  simp [del]
theorem vals_del {l : List Pr} {key u : ByteArray} (hs : Sorted l) (ha : at_ key l = [(key, u)]) : (l.map (·.2)).take (rank key l) ++ (l.map (·.2)).drop (rank key l + 1) = (del l key).map (·.2) := by
  rw [← List.map_take, ← List.map_drop, take_rank hs, (rank_at hs ha).2.2]
  simp [del]
theorem del_not {l : List Pr} {key : ByteArray} (hs : Sorted l) (ha : at_ key l = []) : del l key = l := by
  conv => rhs; rw [split (k := key) hs, ha]
  rfl

set_option maxHeartbeats 4000000 in
theorem del_none (w : World) (n0 g : Nat) (kb vb : Option Nat) (l : List Pr) (key : ByteArray) (hD : IsD w n0 g kb vb l) (hs : Sorted l) (hn : l.length < 1000000) (hh : has l key = false) :
    Calls Try.prog 14 #[.pointer (some ⟨g, 0, none⟩), .string key] w fun e w' => e = .returned (.tuple #[.string ⟨#[]⟩, .bool false]) ∧ Below w.heap.size w w' := by
  have C := Lib.hid (place_any w n0 g kb vb l key hD hs hn)
  rw [hh] at C
  clear hh hD hs
  go_enter Try.func14, Try.ntmps14
  go_wp2_with fail
  refine C.out.mono ?_
  rintro e w1 ⟨rfl, hb⟩
  have HB1 := Lib.hid hb
  clear hb
  go_wp2
  go_ret2
  exact ⟨rfl, HB1.out⟩

set_option maxHeartbeats 4000000 in
theorem del_some (w : World) (n0 g : Nat) (kb vb : Option Nat) (l : List Pr) (key u : ByteArray) (hD : IsD w n0 g kb vb l) (hs : Sorted l) (hn : l.length < 1000000) (h0 : n0 ≤ w.heap.size) (hh : has l key = true) (ha : at_ key l = [(key, u)]) :
    Calls Try.prog 14 #[.pointer (some ⟨g, 0, none⟩), .string key] w fun e w' => e = .returned (.tuple #[.string u, .bool true]) ∧ IsD w' n0 g kb vb (del l key) ∧ Keeps w w' (Foot g kb vb) := by
  have C := Lib.hid (place_any w n0 g kb vb l key hD hs hn)
  rw [hh] at C
  obtain ⟨hlt, hp, _⟩ := rank_at hs ha
  have hgt := hD.lt_size
  obtain ⟨ks, vs, hheap, hg0, rk, rv, e1, e2, hne⟩ := hD
  rcases Row.parts rv with ⟨rfl, hz⟩ | ⟨blk, cap2, rest, rfl, hgb, hhb, hcb, hmb⟩
  · rw [List.map_eq_nil_iff] at hz
    rw [hz] at hlt
    exact absurd hlt (by simp)
  obtain ⟨A1, cap1, hk1⟩ := Row.shape rk
  rw [List.length_map] at hheap rv e2 hk1
  subst hk1
  have cx : w.cell? ⟨blk, rank key l, none⟩ = some (.string u) := by
    have := Row.cell hhb (rank key l) (.string u) (by simp [hp])
    rwa [Nat.zero_add] at this
  have HH := Lib.hid hheap
  have RK := Lib.hid rk
  have RV := Lib.hid rv
  have E1 := Lib.hid e1
  have E2 := Lib.hid e2
  have HS := Lib.hid hs
  have HA := Lib.hid ha
  have NE := Lib.hid hne
  have HG := Lib.hid hgt
  have HX := Lib.hid cx
  have hltz : ((rank key l : Nat) : Int) < (l.length : Int) := by omega
  have hrz : (0 : Int) ≤ ((rank key l : Nat) : Int) := by omega
  have hwr : IntKind.i64.wrap (((rank key l : Nat) : Int) + 1) = ((rank key l : Nat) : Int) + 1 := by rw [IntKind.wrap_i64]; omega
  clear hh hs rk rv e1 e2 hne hheap hgt ha hp cx hhb hcb
  go_enter Try.func14, Try.ntmps14
  go_wp2_with fail
  refine C.out.mono ?_
  rintro e w1 ⟨rfl, hb⟩
  have hh1 := (hb.block g HG.out).trans HH.out
  have H1 := Lib.hid hh1
  have HB1 := Lib.hid hb
  have hc1 := cell_of hh1 1
  have hc2 := cell_of hh1 2
  have cx := (hb.cell (World.block_lt_of_cell? _ _ HX.out)).trans HX.out
  simp only [List.getElem?_toArray, List.getElem?_cons_succ, List.getElem?_cons_zero] at hc1 hc2
  clear hb hh1
  go_wp2_with fail
  have rk1 : Row w1 n0 (.slice A1 l.length cap1) (l.map (·.1)) := Row.keeps RK.out (fun k e => HB1.out.block k (Row.lt_size RK.out k e).2)
  refine (del_any (.slice A1 l.length cap1) n0 (rank key l) (l.map (·.1)) w1 rk1 (by rw [List.length_map]; exact hlt)).mono ?_
  rintro e w2 ⟨ks', rfl, rk2, hg2, fr2⟩
  rw [keys_del HS.out HA.out] at rk2
  obtain ⟨A1', cap1', hks'⟩ := Row.shape rk2
  rw [List.length_map] at hks'
  subst hks'
  have hgk : (Value.slice A1 l.length cap1).ownBlock ≠ some g := Row.ne_of_type RK.out HH.out (by decide)
  have hgw1 : g < w1.heap.size := Nat.lt_of_lt_of_le HG.out HB1.out.size
  have hh2 := (hg2.block g hgw1 (fun e => hgk e.symm)).trans H1.out
  have H2 := Lib.hid hh2
  have RK2 := Lib.hid rk2
  have G2 := Lib.hid hg2
  have FR2 := Lib.hid fr2
  have hc1 := cell_of hh2 1
  have hc2 := cell_of hh2 2
  have hf1 := frozen_of hh2 1
  simp only [List.getElem?_toArray, List.getElem?_cons_succ, List.getElem?_cons_zero] at hc1 hc2
  clear rk1 rk2 hg2 fr2 hgk hgw1 hh2 cx
  go_wp2_with fail
  have K3 : Keeps w (w2.setCell ⟨g, 1, none⟩ (.slice A1' (del l key).length cap1')) (fun k => k = g ∨ some k = kb) := by
    refine ((Keeps.of_below (fun k => k = g ∨ some k = kb) HB1.out).trans (Keeps.of_grown G2.out) ?_).trans (Keeps.set _ _ _) (fun k _ h => Or.inl h)
    intro k _ h
    rw [E1.out] at h
    exact Or.inr h
  have HK3 := Lib.hid K3
  have hvg : (Value.slice (some ⟨blk, 0, none⟩) l.length cap2).ownBlock ≠ some g := Row.ne_of_type RV.out HH.out (by decide)
  have hvk : ∀ k, (Value.slice (some ⟨blk, 0, none⟩) l.length cap2).ownBlock = some k → ¬ (k = g ∨ some k = kb) := fun k e => by
    rintro (rfl | h)
    · exact hvg e
    · have h2 := E2.out
      rw [e] at h2
      rcases NE.out with n | n
      · rw [n] at h; cases h
      · exact n (h.symm.trans h2)
  have rv3 : Row (w2.setCell ⟨g, 1, none⟩ (.slice A1' (del l key).length cap1')) n0 (.slice (some ⟨blk, 0, none⟩) l.length cap2) (l.map (·.2)) := Row.keeps RV.out (fun k e => K3.block k (Row.lt_size RV.out k e).2 (hvk k e))
  refine (del_any (.slice (some ⟨blk, 0, none⟩) l.length cap2) n0 (rank key l) (l.map (·.2)) _ rv3 (by rw [List.length_map]; exact hlt)).mono ?_
  rintro e w4 ⟨vs', rfl, rv4, hg4, fr4⟩
  rw [vals_del HS.out HA.out] at rv4
  obtain ⟨A2', cap2', hvs'⟩ := Row.shape rv4
  rw [List.length_map] at hvs'
  subst hvs'
  have hgw2 : g < (w2.setCell ⟨g, 1, none⟩ (.slice A1' (del l key).length cap1')).heap.size := Nat.lt_of_lt_of_le HG.out K3.size
  have hh4 := (hg4.block g hgw2 (fun e => hvg e.symm)).trans (heap_set1 H2.out)
  have H4 := Lib.hid hh4
  have RV4 := Lib.hid rv4
  have G4 := Lib.hid hg4
  have FR4 := Lib.hid fr4
  have VK := Lib.hid hvk
  have hc2 := cell_of hh4 2
  have hf2 := frozen_of hh4 2
  simp only [List.getElem?_toArray, List.getElem?_cons_succ, List.getElem?_cons_zero] at hc2
  clear K3 hvg hvk rv3 rv4 hg4 fr4 hgw2 hh4 hc1 hf1
  go_wp2_with fail
  go_ret2
  have hk1 : (Value.slice A1' (del l key).length cap1').ownBlock ≠ some g := Row.ne_of_type RK2.out H2.out (by decide)
  have hv1 : (Value.slice A2' (del l key).length cap2').ownBlock ≠ some g := Row.ne_of_type RV4.out H4.out (by decide)
  have K34 : Keeps (w2.setCell ⟨g, 1, none⟩ (.slice A1' (del l key).length cap1')) (w4.setCell ⟨g, 2, none⟩ (.slice A2' (del l key).length cap2')) (fun k => k = g ∨ some k = vb) := by
    refine ((Keeps.of_grown G4.out).mono (T := fun k => k = g ∨ some k = vb) ?_).trans (Keeps.set w4 ⟨g, 2, none⟩ (.slice A2' (del l key).length cap2')) (fun k _ h => Or.inl h)
    intro k _ h
    exact Or.inr (h.trans E2.out)
  have K5 : Keeps w2 (w4.setCell ⟨g, 2, none⟩ (.slice A2' (del l key).length cap2')) (fun k => k = g ∨ some k = vb) :=
    ((Keeps.set w2 ⟨g, 1, none⟩ _).mono (fun k _ h => Or.inl h)).trans K34 (fun _ _ h => h)
  refine ⟨rfl, ⟨_, _, heap_set2 H4.out, hg0, ?_, ?_, FR2.out.trans E1.out, FR4.out.trans E2.out, NE.out⟩, ?_⟩
  · exact Row.keeps RK2.out (fun k e => K5.block k (Row.lt_size RK2.out k e).2 (by
      rintro (rfl | h)
      · exact hk1 e
      · exact VK.out k (E2.out.trans h.symm) (Or.inr (by rw [← E1.out, ← FR2.out, e]))))
  · exact Row.keeps RV4.out (fun k e => (Keeps.set w4 ⟨g, 2, none⟩ _).block k (Row.lt_size RV4.out k e).2 (fun e' => hv1 (by rw [e, e'])))
  · exact (HK3.out.mono (T := Foot g kb vb) (fun k _ h => h.elim Or.inl (fun h => Or.inr (Or.inl h)))).trans K34 (fun k _ h => h.elim Or.inl (fun h => Or.inr (Or.inr h)))
theorem del_any' (w : World) (n0 g : Nat) (kb vb : Option Nat) (l : List Pr) (key : ByteArray) (hD : IsD w n0 g kb vb l) (hs : Sorted l) (hn : l.length < 1000000) (h0 : n0 ≤ w.heap.size) :
    Calls Try.prog 14 #[.pointer (some ⟨g, 0, none⟩), .string key] w fun e w' => e = .returned (.tuple #[.string (dget l key).1, .bool (dget l key).2]) ∧ IsD w' n0 g kb vb (del l key) ∧ Keeps w w' (Foot g kb vb) := by
  cases hh : has l key with
  | false =>
    have hg : dget l key = (⟨#[]⟩, false) := by simp [dget, at_of_not hh]
    rw [hg, del_not hs (at_of_not hh)]
    exact (del_none w n0 g kb vb l key hD hs hn hh).mono fun e w' ⟨he, b⟩ => ⟨he, hD.below b, Keeps.of_below _ b⟩
  | true =>
    obtain ⟨u, ha⟩ := at_of_has hs hh
    have hg : dget l key = (u, true) := by simp [dget, ha]
    rw [hg]
    exact del_some w n0 g kb vb l key u hD hs hn h0 hh ha
end Go.Proofs.Ytdenkbdagbmddaa.DcW
