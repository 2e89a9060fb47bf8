/- dict: the walk of Put of a key that is there. -/
import Derived.Test.YtdenkbdagbmddaaDictPut
namespace Go.Proofs.Ytdenkbdagbmddaa.DcW
open Go.RowKit Go.Shelf Dc DcM
set_option linter.unusedVariables false
theorem vals_old {l : List Pr} {key u : ByteArray} (hs : Sorted l) (ha : at_ key l = [(key, u)]) (v : ByteArray) : (put l key v).map (·.1) = l.map (·.1) ∧ (put l key v).map (·.2) = (l.map (·.2)).set (rank key l) v ∧ (put l key v).length = l.length := by
  have e := split (k := key) hs
  rw [ha] at e
  refine ⟨?_, ?_, ?_⟩
  · conv => rhs; rw [e]
    simp [put]
  · have : (l.map (·.2)).set (rank key l) v = ((below key l ++ ([(key, u)] ++ above key l)).map (·.2)).set (rank key l) v := congrArg (fun z => (z.map (·.2)).set (rank key l) v) e
    rw [this]
    simp [put, rank]
  · conv => rhs; rw [e]
    simp [put]
set_option maxHeartbeats 8000000 in
theorem put_old (w : World) (n0 g : Nat) (kb vb : Option Nat) (l : List Pr) (key v u : ByteArray) (hD : IsD w n0 g kb vb l) (hs : Sorted l) (hn : l.length < 1000000) (hh : has l key = true) (ha : at_ key l = [(key, u)]) :
    Calls Try.prog 6 #[.pointer (some ⟨g, 0, none⟩), .string key, .string v] w fun e w' => e = .returned (.tuple #[.string u, .bool true]) ∧ IsD w' n0 g kb vb (put l key v) ∧ Keeps w w' (Foot g kb vb) := by
  have C := Lib.hid (place_any w n0 g kb vb l key hD hs hn)
  rw [hh] at C
  obtain ⟨hlt, hp, _⟩ := rank_at hs ha
  have hgt := hD.lt_size
  obtain ⟨ks, vs, hheap, hg0, rk, rv, e1, e2, hne⟩ := hD
  have hc0 := cell_of hheap 0
  rcases Row.parts rv with ⟨rfl, h0⟩ | ⟨blk, cap, rest, rfl, hgb, hhb, hcb, hmb⟩
  · rw [List.map_eq_nil_iff] at h0
    rw [h0] at hlt
    exact absurd hlt (by simp)
  rw [List.length_map] at hheap rv e2
  have cx : w.cell? ⟨blk, rank key l, none⟩ = some (.string u) := by
    have := Row.cell hhb (rank key l) (.string u) (by simp [hp])
    rwa [Nat.zero_add] at this
  have HH := Lib.hid hheap
  have HBK := Lib.hid hhb
  have RK := Lib.hid rk
  have E1 := Lib.hid e1
  have E2 := Lib.hid e2
  have HS := Lib.hid hs
  have HP := Lib.hid ha
  have NE := Lib.hid hne
  have HG := Lib.hid hgt
  have HX := Lib.hid cx
  have HCB := Lib.hid hcb
  have hltz : ((rank key l : Nat) : Int) < (l.length : Int) := by omega
  have hrz : (0 : Int) ≤ ((rank key l : Nat) : Int) := by omega
  clear hh hs rk rv e1 e2 hne hheap hgt ha hp cx hhb hcb
  simp only [List.getElem?_toArray, List.getElem?_cons_zero] at hc0
  go_enter Try.func6, Try.ntmps6
  go_wp2_with fail
  refine C.out.mono ?_
  rintro e w1 ⟨rfl, hb⟩
  have hh1 := (hb.block g HG.out).trans HH.out
  have hb1 := (hb.block blk (Array.getElem?_eq_some_iff.1 HBK.out).1).trans HBK.out
  have H1 := Lib.hid hh1
  have HB1 := Lib.hid hb
  have HK1 := Lib.hid hb1
  have hc2 := cell_of hh1 2
  have cx := (hb.cell (World.block_lt_of_cell? _ _ HX.out)).trans HX.out
  have hf := frozen_of hb1 (rank key l)
  simp only [List.getElem?_toArray, List.getElem?_cons_succ, List.getElem?_cons_zero] at hc2
  clear hb hh1 hc0 hb1
  go_wp2_with fail
  go_region
  all_goals go_wp2
  all_goals go_ret2
  have hbg : blk ≠ g := fun e => by
    have h1 := HK1.out
    rw [e, H1.out] at h1
    injection h1 with h1
    injection h1 with _ ht
    exact absurd ht (by decide)
  obtain ⟨p1, p2, p3⟩ := vals_old HS.out HP.out v
  have KS : Keeps w (w1.drew.setCell ⟨blk, rank key l, none⟩ (.string v)) (fun k => k = blk) :=
    ((Keeps.of_below (fun k => k = blk) (HB1.out.drew)).trans (Keeps.set _ _ _) (fun k _ h => h))
  refine ⟨rfl, ⟨ks, .slice (some ⟨blk, 0, none⟩) l.length cap, ?_, hg0, ?_, ?_, E1.out, E2.out, NE.out⟩, KS.mono fun k _ h => Or.inr (Or.inr (by subst h; exact E2.out))⟩
  · exact (KS.block g HG.out (fun e => hbg e.symm)).trans HH.out
  · rw [p1]
    exact Row.keeps RK.out (fun k e => KS.block k (Row.lt_size RK.out k e).2 (fun e' => by
      subst e'
      have e1 := E1.out
      have e2 := E2.out
      rw [e] at e1
      rcases NE.out with n | n
      · rw [n] at e1; cases e1
      · exact n (e1.symm.trans e2)))
  · rw [p2]
    have hcur : (w1.drew.setCell ⟨blk, rank key l, none⟩ (.string v)).heap[blk]? = some (.cells ((strs (l.map (·.2)) ++ rest).set (rank key l) (.string v)).toArray 9 (0, 0)) := by
      have h1 : w1.drew.heap[blk]? = _ := HK1.out
      simp [World.setCell, Array.getElem?_modify, h1]
    have hl0 : l.length ≤ cap := by have := HCB.out; simp at this; omega
    refine Row.mk hgb hcur (by simp) (by have := HCB.out; simp at this ⊢; omega) hmb ?_ hl0
    rw [List.set_append_left _ _ (by simpa using hlt), List.take_left' (by simp)]
    simp
end Go.Proofs.Ytdenkbdagbmddaa.DcW
