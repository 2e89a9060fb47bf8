/- ref09.Parts: the walk. -/
import Derived.Test.YtdibkhddhgaghaaDoorPartsP
import Derived.Test.YtdibkhddhgaghaaDoorProg
import Derived.WalkKit
import Derived.Lib.Hide
import Derived.Lib.Walk
import Derived.Below
import Derived.IntWalk
import Derived.LoopTactic
import Derived.Deep.LoopGhost
import Derived.WalkLawsBesides
import Derived.KernelRfl
import Derived.Tactics2
import Derived.Laws.AppendOwn
import Derived.Laws.OwnMore
import Derived.Deep.AppendLies
import Derived.Outline
namespace Go.Proofs.YtdibkhddhgaghaaDoor.Pt
open Go.RowKit
set_option linter.unusedVariables false
set_option linter.unusedSimpArgs false
theorem info_parts' {P : Program} {e : TypeId} {z : Option Value} {size bytes : Nat} (h : (P.info? e).map (fun i => (i.zero, i.size, i.bytes)) = some (z, size, bytes)) : ∃ i, P.info? e = some i ∧ i.zero = z ∧ i.size = size ∧ i.bytes = bytes := by
  cases hp : P.info? e with
  | none => rw [hp] at h; cases h
  | some i =>
    rw [hp] at h
    simp only [Option.map_some, Option.some.injEq, Prod.mk.injEq] at h
    exact ⟨i, rfl, h.1, h.2.1, h.2.2⟩
theorem infoS' : (Tryd.prog.info? 9).map (fun i => (i.zero, i.size, i.bytes)) = some (some (.string ⟨#[]⟩), 1, 16) := by kernel_rfl
theorem cell_one_new' (w : World) (x : Value) (t : TypeId) : ∀ j u, [x][j]? = some u → (w.alloc (.cells #[x] t)).cell? ((⟨w.heap.size, 0, none⟩ : Addr).add j) = some u := fun j u h => World.news_of_block (cs := #[x]) (t := t) (fr := (0, 0)) (heap_alloc_new w _) j u h
def strs' (l : List ByteArray) : List Value := l.map Value.string
theorem pt_go {b : UInt8} {s : ByteArray} {i : Nat} (h : i = s.size ∨ s.data.toList[i]? = some b) : pt b s (i + 1) = ((pt b s i).1 ++ [s.extract (pt b s i).2 i], i + 1) := by
  conv => lhs; unfold pt
  rw [if_pos h]
theorem pt_stay {b : UInt8} {s : ByteArray} {i : Nat} (h : ¬ (i = s.size ∨ s.data.toList[i]? = some b)) : pt b s (i + 1) = pt b s i := by
  conv => lhs; unfold pt
  rw [if_neg h]
theorem at_list (s : ByteArray) (i : Nat) (h : i < s.size) : s.data.toList[i]? = some s[i] := by
  rw [List.getElem?_eq_getElem (by simpa using h)]; rfl
set_option maxRecDepth 100000 in
set_option maxHeartbeats 8000000 in
theorem parts_any (w : World) (s : ByteArray) (b : UInt8) (hs : s.size ≤ 1099511627776) :
    Calls Tryd.prog 43 #[.string s, .int .u8 (b.toNat : Int)] w fun e w' => ∃ v, e = .returned v ∧ w'.ownsRow w.heap.size 9 1 v (parts b s).length (strs' (parts b s)) ∧ Below w.heap.size w w' := by
  obtain ⟨i0, hi, hz0, hz1, hz2⟩ := info_parts' infoS'
  go_enter Tryd.func43, Tryd.ntmps43
  go_wp2_with fail
  go_loopw [5, 6, 7] (fun ov fv i wr => ∃ k : Nat, k ≤ s.size + 1 ∧ i = .int .i64 k ∧ fv = .int .i64 ((pt b s k).2 : Nat) ∧ wr.ownsRow w.heap.size 9 1 ov (pt b s k).1.length (strs' (pt b s k).1) ∧ Below w.heap.size w wr) (fun _ _ i _ => s.size + 1 - (intOf i).toNat)
  case atStart => exact ⟨0, Nat.zero_le _, rfl, rfl, World.ownsRow_lit (base := w.heap.size) (e := 9) (size := 1) w #[] 0 (Nat.le_refl _) (by decide) rfl, (Below.refl _ _).alloc (Nat.le_refl _) _⟩
  case round =>
    obtain ⟨k, hk, rfl, rfl, hrow, hB⟩ := hrel
    have HR := Lib.hid hrow
    have HB := Lib.hid hB
    have hlen := pt_len b s k
    have hfr := pt_from b s k
    have hsz := hB.size
    have HPT := Lib.hid (pt_end b s)
    obtain ⟨done, hdone⟩ : ∃ d, d = (pt b s k).1 := ⟨_, rfl⟩
    obtain ⟨fr, hfro⟩ : ∃ f, f = (pt b s k).2 := ⟨_, rfl⟩
    have HD := Lib.hid hdone
    have HF := Lib.hid hfro
    have HGO := Lib.hid (pt_go (b := b) (s := s) (i := k))
    have HST := Lib.hid (pt_stay (b := b) (s := s) (i := k))
    rw [← hdone, ← hfro] at HGO
    rw [← hdone] at hrow HR hlen
    rw [← hfro] at hfr
    rw [← hfro]
    clear hdone hfro hB
    by_cases h1 : k ≤ s.size
    · by_cases he : k = s.size
      · have HN := Lib.hid (HGO.out (Or.inl he))
        have be : ((k : Int) == (s.size : Int)) = true := by rw [beq_iff_eq]; omega
        clear he
        go_wp2_with (at_builtin; refine wpList_append_own _ rfl _ _ 70 rfl w.heap.size 9 i0 (.string ⟨#[]⟩) 1 16 Tryd.underlying70 hi hz0 hz1 hz2 rfl (by decide) _ _ _ rfl (hrow.alloc _) _ 1 1 [.string (s.extract fr k)] rfl rfl (cell_one_new' _ _ _) (by simp [Value.oneCell']) (by simp [maxLen]; omega) (by omega) (by simp; omega) ?_; intro v9 w9 hown9 hgrow9 hnil9; have HO := Lib.hid hown9; have HG := Lib.hid hgrow9; clear hown9 hgrow9 hnil9)
        refine ⟨⟨k + 1, by omega, by go_num, by rw [HN.out]; go_num, ?_, (HB.out.alloc hsz _).grown HG.out (by simp; omega) (fun gg hgg => (World.ownsRow.lt hrow gg hgg).1)⟩, by show s.size + 1 - ((k : Int) + 1).toNat < s.size + 1 - (k : Int).toNat; omega⟩
        rw [HN.out]
        have := HO.out
        simpa [strs'] using this
      · have be : ((k : Int) == (s.size : Int)) = false := by rw [beq_eq_false_iff_ne]; omega
        have hlt : k < s.size := by omega
        have HAT := Lib.hid (at_list s k hlt)
        by_cases hb : s[k] = b
        · have HN := Lib.hid (HGO.out (Or.inr (by rw [HAT.out, hb])))
          have bb : ((s[k].toNat : Int) == (b.toNat : Int)) = true := by rw [hb]; simp
          clear he hb
          go_wp2_with (at_builtin; refine wpList_append_own _ rfl _ _ 70 rfl w.heap.size 9 i0 (.string ⟨#[]⟩) 1 16 Tryd.underlying70 hi hz0 hz1 hz2 rfl (by decide) _ _ _ rfl (hrow.alloc _) _ 1 1 [.string (s.extract fr k)] rfl rfl (cell_one_new' _ _ _) (by simp [Value.oneCell']) (by simp [maxLen]; omega) (by omega) (by simp; omega) ?_; intro v9 w9 hown9 hgrow9 hnil9; have HO := Lib.hid hown9; have HG := Lib.hid hgrow9; clear hown9 hgrow9 hnil9)
          refine ⟨⟨k + 1, by omega, by go_num, by rw [HN.out]; go_num, ?_, (HB.out.alloc hsz _).grown HG.out (by simp; omega) (fun gg hgg => (World.ownsRow.lt hrow gg hgg).1)⟩, by show s.size + 1 - ((k : Int) + 1).toNat < s.size + 1 - (k : Int).toNat; omega⟩
          rw [HN.out]
          have := HO.out
          simpa [strs'] using this
        · have HN := Lib.hid (HST.out (by
            rintro (h | h)
            · exact he h
            · rw [HAT.out] at h; exact hb (Option.some.inj h)))
          have bb : ((s[k].toNat : Int) == (b.toNat : Int)) = false := by
            rw [beq_eq_false_iff_ne]
            intro h
            exact hb (UInt8.toNat_inj.mp (by omega))
          clear he hb hrow
          go_wp2_with fail
          refine ⟨⟨k + 1, by omega, by go_num, by rw [HN.out, ← HF.out], ?_, HB.out⟩, by show s.size + 1 - ((k : Int) + 1).toNat < s.size + 1 - (k : Int).toNat; omega⟩
          rw [HN.out, ← HD.out]
          exact HR.out
    · have hke : k = s.size + 1 := by omega
      have HE := Lib.hid (show done = parts b s by rw [HD.out, hke]; exact HPT.out)
      clear hrow
      go_wp2_with fail
      go_ret
      exact ⟨_, rfl, by rw [← HE.out]; exact HR.out, HB.out⟩
end Go.Proofs.YtdibkhddhgaghaaDoor.Pt
