/- The walks of the package hexa: what Print and Parse return, for every text of at most 2^40 bytes. -/
import Derived.Test.YtdibkhddhgaghaaDoorProg
import Derived.Test.YtdibkhddhgaghaaDoorHexaPure
import Derived.WalkKit
import Derived.Lib.Hide
import Derived.Lib.OthersKept
import Derived.Laws.MakeOwn
import Derived.Laws.AppendOwn
import Derived.OwnWalk
import Derived.Laws.IdiomStrings
import Derived.Deep.QuietTactic
import Derived.BigQuiet
import Derived.Deep.RegionHeld3
import Derived.Deep.RegionLaw
import Derived.Deep.AppendLies
import Derived.StillTactics
import Derived.WalkSpells
import Derived.Tactics2
import Derived.Laws.BitsLemmas
import Derived.Lib.BufferRead
import Derived.KernelRfl
namespace Go.Proofs.YtdibkhddhgaghaaDoor.Hxw
open Go.RowKit
theorem ret_int {k : IntKind} {a b : Int} (h : a = b) : Ending.returned (.int k a) = .returned (.int k b) := by rw [h]
set_option maxHeartbeats 400000 in
theorem worth_any (c : Nat) (h : c < 2147483648) (w : World) : Calls Tryd.prog 122 #[.int .i32 c] w fun e w' => e = .returned (.int .i64 (Hx.worth c)) ∧ w = w' := by
  unfold Hx.worth
  by_cases h1 : 48 ≤ c
  · by_cases h2 : c ≤ 57
    · rw [if_pos ⟨h1, h2⟩]
      go_enter Tryd.func122, Tryd.ntmps122
      go_wp2
      go_ret
      exact ⟨ret_int (by omega), rfl⟩
    · rw [if_neg (fun k => h2 k.2)]
      by_cases h3 : 97 ≤ c
      · by_cases h4 : c ≤ 102
        · rw [if_pos ⟨h3, h4⟩]
          go_enter Tryd.func122, Tryd.ntmps122
          go_wp2
          go_ret
          exact ⟨ret_int (by omega), rfl⟩
        · rw [if_neg (fun k => h4 k.2)]
          go_enter Tryd.func122, Tryd.ntmps122
          go_wp2
          go_ret
          exact ⟨rfl, rfl⟩
      · rw [if_neg (fun k => h3 k.1)]
        go_enter Tryd.func122, Tryd.ntmps122
        go_wp2
        go_ret
        exact ⟨rfl, rfl⟩
  · rw [if_neg (fun k => h1 k.1), if_neg (fun k => h1 (by omega))]
    go_enter Tryd.func122, Tryd.ntmps122
    go_wp2
    go_ret
    exact ⟨rfl, rfl⟩

def cells (l : List UInt8) : List Value := l.map fun b => .int .u8 (b.toNat : Int)
def out (t : ByteArray) : ByteArray := match Hx.parse t.data.toList with | some l => ⟨l.toArray⟩ | none => ⟨#[]⟩
def err (t : ByteArray) : Int := match Hx.parse t.data.toList with | some _ => 0 | none => 3
def wt (t : ByteArray) (k : Nat) : Nat := Hx.worth (t.data.toList.getD k 0).toNat
def last (t : ByteArray) (k : Nat) : Nat := if k = 0 then 0 else wt t (k - 1)
theorem last_succ (t : ByteArray) (k : Nat) : last t (k + 1) = wt t k := by unfold last; simp
theorem last_le (t : ByteArray) (k : Nat) : last t k ≤ 16 := by
  unfold last; split
  · omega
  · exact Hx.worth_le _
theorem getD_at (t : ByteArray) (k : Nat) (h : k < t.size) : t.data.toList.getD k 0 = t[k] := by
  have h' : k < t.data.toList.length := by simpa using h
  rw [List.getD_eq_getElem?_getD, List.getElem?_eq_getElem h']; rfl
theorem take_snoc (t : ByteArray) (k : Nat) (h : k < t.size) : t.data.toList.take (k + 1) = t.data.toList.take k ++ [t[k]] := by
  rw [List.take_succ_eq_append_getElem (by simpa using h)]; rfl
/-- all of the first k bytes are digits -/
def Good (t : ByteArray) (k : Nat) : Prop := ∀ c ∈ t.data.toList.take k, Hx.worth c.toNat ≠ 16
theorem Good.succ {t : ByteArray} {k : Nat} (h : Good t k) (hk : k < t.size) (hw : Hx.worth t[k].toNat ≠ 16) : Good t (k + 1) := by
  intro c hc
  rw [take_snoc t k hk] at hc
  rcases List.mem_append.mp hc with hc | hc
  · exact h c hc
  · simp at hc; subst hc; exact hw
theorem size_list (t : ByteArray) : t.data.toList.length = t.size := by simp
theorem len_take (t : ByteArray) (k : Nat) (h : k ≤ t.size) : (t.data.toList.take k).length = k := by rw [List.length_take, size_list]; omega
theorem dec_even (t : ByteArray) (k : Nat) (hk : k < t.size) (he : k % 2 = 0) : Hx.dec (t.data.toList.take (k + 1)) = Hx.dec (t.data.toList.take k) := by
  have hl : (t.data.toList.take k).length = k := len_take t _ (by omega)
  rw [take_snoc t k hk, Hx.dec_snoc1 _ _ (by omega)]
theorem dec_odd (t : ByteArray) (k : Nat) (hk : k < t.size) (ho : k % 2 = 1) : Hx.dec (t.data.toList.take (k + 1)) = Hx.dec (t.data.toList.take k) ++ [UInt8.ofNat (16 * last t k + Hx.worth t[k].toNat)] := by
  obtain ⟨j, rfl⟩ : ∃ j, k = j + 1 := ⟨k - 1, by omega⟩
  have hl : (t.data.toList.take j).length = j := len_take t _ (by omega)
  have e : t.data.toList.take (j + 1 + 1) = t.data.toList.take j ++ [t[j], t[j + 1]] := by rw [take_snoc t (j + 1) hk, take_snoc t j (by omega), List.append_assoc]; rfl
  rw [e, take_snoc t j (by omega), Hx.dec_snoc2 _ _ _ (by omega), Hx.dec_snoc1 _ _ (by omega), last_succ]
  unfold wt
  rw [getD_at t j (by omega)]
theorem parse_all (t : ByteArray) (h1 : t.data.toList ≠ [45]) (h0 : t.data.toList ≠ []) (he : t.size % 2 = 0) (hg : Good t t.size) : Hx.parse t.data.toList = some (Hx.dec t.data.toList) := by
  have e : t.size = t.data.toList.length := (size_list t).symm
  unfold Hx.parse
  rw [if_neg h1, if_neg h0]
  refine Hx.pairs_dec _ (by omega) (fun c hc => hg c ?_)
  rw [e, List.take_length]; exact hc
theorem parse_bad (t : ByteArray) (h1 : t.data.toList ≠ [45]) (h0 : t.data.toList ≠ []) (k : Nat) (hk : k < t.size) (hw : Hx.worth t[k].toNat = 16) : Hx.parse t.data.toList = none := by
  unfold Hx.parse
  rw [if_neg h1, if_neg h0]
  have h' : k < t.data.toList.length := by rw [size_list]; exact hk
  have hm : t[k] ∈ t.data.toList := List.getElem_mem h'
  exact Hx.pairs_bad _ t[k] hm hw
theorem parse_odd (t : ByteArray) (h1 : t.data.toList ≠ [45]) (ho : t.size % 2 = 1) : Hx.parse t.data.toList = none := by
  have e : t.size = t.data.toList.length := (size_list t).symm
  unfold Hx.parse
  have h0 : t.data.toList ≠ [] := fun h => by rw [h] at e; have e' : t.size = 0 := e; omega
  rw [if_neg h1, if_neg h0]
  exact Hx.pairs_odd _ (by omega)
theorem info_u8 : (Tryd.prog.info? 5).map (fun i => (i.zero, i.size, i.bytes)) = some (some (.int .u8 0), 1, 1) := by kernel_rfl

structure Rel (t : ByteArray) (w : World) (it : Nat) (k : Nat) (v : Value) (wr : World) : Prop where
  good : Good t k
  own : wr.ownsRow w.heap.size 5 1 v (Hx.dec (t.data.toList.take k)).length (cells (Hx.dec (t.data.toList.take k)))
  iter : wr.heap[it]? = some (.stringIter t k)
  below : Below w.heap.size w wr
  ge : w.heap.size ≤ it
theorem own_move {w w1 : World} {base : Nat} {e : TypeId} {size n : Nat} {v : Value} {xs : List Value} (h : w.ownsRow base e size v n xs) (hm : ∀ k, v.ownBlock = some k → w1.heap[k]? = w.heap[k]?) : w1.ownsRow base e size v n xs := by
  obtain ⟨h1, h2⟩ := h
  refine ⟨h1, ?_⟩
  rcases h2 with h2 | ⟨g, cap, cur, rfl, hg, hh, r⟩
  · exact .inl h2
  · exact .inr ⟨g, cap, cur, rfl, hg, (hm g (by simp [Value.ownBlock])).trans hh, r⟩
theorem own_typed {w : World} {base : Nat} {e : TypeId} {size n : Nat} {v : Value} {xs : List Value} (h : w.ownsRow base e size v n xs) (k : Nat) (hk : v.ownBlock = some k) : base ≤ k ∧ ∃ cells, w.heap[k]? = some (.cells cells e (0, 0)) := by
  rcases h.2 with ⟨rfl, _⟩ | ⟨g, cap, cur, rfl, hg, hh, r⟩
  · simp [Value.ownBlock] at hk
  · have : g = k := by simpa [Value.ownBlock] using hk
    subst this
    exact ⟨hg, cur, hh⟩
theorem own_iter {w : World} {base : Nat} {e : TypeId} {size n : Nat} {v : Value} {xs : List Value} (h : w.ownsRow base e size v n xs) {it : Nat} {s : ByteArray} {p p' : Nat} (hit : w.heap[it]? = some (.stringIter s p)) : (w.iterAt it s p').ownsRow base e size v n xs :=
  own_move h fun k hk => Lib.iterAt_other w it k s p' (fun e => by obtain ⟨_, c, hc⟩ := own_typed h k hk; rw [e, hit] at hc; cases hc)
theorem own_conv {P : Program} {w : World} {base : Nat} {src dst e : TypeId} {v : Value} {l : List UInt8} {n : Nat} (hs : P.underlying src = some (.slice e)) (he : P.underlying e = some (.int .u8)) (hd : P.underlying dst = some .string)
    (h : w.ownsRow base e 1 v n (cells l)) (hn : n = l.length) : (convert src dst v).run P w = .ok (.string ⟨l.toArray⟩) w := by
  subst hn
  rcases h.2 with ⟨rfl, h0⟩ | ⟨g, cap, cur, rfl, hg, hh, h1, h2, h3, h4⟩
  · have : l = [] := List.length_eq_zero_iff.mp h0
    subst this
    exact Lib.run_convert_nil_bytes w src dst e 0 hs he hd
  · refine run_convert_bytes_back w src dst e ⟨g, 0, none⟩ cap l hs he hd (fun j hj => ?_)
    have e1 : (⟨g, 0, none⟩ : Addr).add j = ⟨g, j, none⟩ := by
      unfold Addr.add; split <;> simp_all
    have e2 : cur.toList[j]? = some (.int .u8 (l[j].toNat : Int)) := by
      have : (cur.toList.take (l.length * 1))[j]? = (cells l)[j]? := by rw [h4]
      rw [List.getElem?_take_of_lt (by omega)] at this
      rw [this]
      simp [cells, hj]
    rw [e1]
    simp only [World.cell?, hh]
    rw [← e2]; simp
theorem cell_new1 (w : World) (x : Value) (ty : TypeId) (j : Nat) (u : Value) (h : [x][j]? = some u) : (w.alloc (.cells #[x] ty)).cell? ((⟨w.heap.size, 0, none⟩ : Addr).add j) = some u := by
  have hj : j = 0 := by
    rcases j with _ | j
    · rfl
    · simp at h
  subst hj
  have hu : x = u := by simpa using h
  subst hu
  simp [Addr.add]
theorem dec_len (t : ByteArray) (k : Nat) (h : k ≤ t.size) : (Hx.dec (t.data.toList.take k)).length = k / 2 := by rw [Hx.dec_length, len_take t k h]
theorem decode_worth (t : ByteArray) (k : Nat) (h : k < t.size) : Hx.worth (Utf8.decode t k).1 = Hx.worth t[k].toNat := by
  by_cases ha : t[k].toNat < 128
  · rw [decode_ascii t k h ha]
  · have := (decode_high t k h (by omega)).1
    unfold Hx.worth
    rw [if_neg (by omega), if_neg (by omega), if_neg (by omega), if_neg (by omega)]
theorem worth_ascii {c : Nat} (h : Hx.worth c ≠ 16) : c < 128 := by
  unfold Hx.worth at h
  split at h
  · omega
  · split at h
    · omega
    · exact absurd rfl h
theorem out_none {t : ByteArray} (h : Hx.parse t.data.toList = none) : out t = ⟨#[]⟩ ∧ err t = 3 := by unfold out err; rw [h]; exact ⟨rfl, rfl⟩
theorem out_some {t : ByteArray} {l : List UInt8} (h : Hx.parse t.data.toList = some l) : out t = ⟨l.toArray⟩ ∧ err t = 0 := by unfold out err; rw [h]; exact ⟨rfl, rfl⟩
set_option maxHeartbeats 4000000 in
set_option maxRecDepth 100000 in
theorem parse_any (t : ByteArray) (ht : t.size ≤ 1099511627776) (w : World) :
    Calls Tryd.prog 94 #[.string t] w fun e w' => e = .returned (.tuple #[.string (out t), .int .i64 (err t)]) ∧ Below w.heap.size w w' := by
  have hl : t.toList = t.data.toList := ByteArray.toList_eq t
  by_cases h1 : t.data.toList = [45]
  · have b1 : (t.toList == [45]) = true := by rw [hl, h1]; rfl
    obtain ⟨e1, e2⟩ := out_some (t := t) (l := []) (by unfold Hx.parse; rw [if_pos h1])
    rw [e1, e2]
    clear hl h1 e1 e2
    go_enter Tryd.func94, Tryd.ntmps94
    go_wp2
    go_ret2
    exact ⟨rfl, Below.refl _ _⟩
  · have b1 : (t.toList == [45]) = false := by rw [hl]; simpa using h1
    by_cases h0 : t.data.toList = []
    · have b0 : t.toList.isEmpty = true := by rw [hl, h0]; rfl
      have b0' : t.toList = [] := by rw [hl, h0]
      obtain ⟨e1, e2⟩ := out_none (t := t) (by unfold Hx.parse; rw [if_neg h1, if_pos h0])
      rw [e1, e2]
      clear hl h1 h0 e1 e2
      go_enter Tryd.func94, Tryd.ntmps94
      go_wp2
      go_ret2
      exact ⟨rfl, Below.refl _ _⟩
    · have b0 : t.toList.isEmpty = false := by rw [hl]; simpa using h0
      by_cases ho : t.size % 2 = 1
      · have b2 : ((t.size : Int) % 2 != 0) = true := by rw [bne_iff_ne]; omega
        obtain ⟨e1, e2⟩ := out_none (parse_odd t h1 ho)
        rw [e1, e2]
        clear hl h1 h0 e1 e2
        go_enter Tryd.func94, Tryd.ntmps94
        go_wp2
        go_ret2
        exact ⟨rfl, Below.refl _ _⟩
      · have b2 : ((t.size : Int) % 2 != 0) = false := by rw [← Bool.not_eq_true, bne_iff_ne]; omega
        obtain ⟨i0, hi, hz0, hz1, hz2⟩ := info_parts info_u8
        obtain ⟨w1, hr, hown, hg⟩ := run_make_own (P := Tryd.prog) w w.heap.size 89 5 i0 (.int .u8 0) 1 Tryd.underlying89 hi hz0 hz1 .i64 .i64 (t.size / 2) (by rw [hz2]; omega) (by unfold maxLen; omega) (Nat.le_refl _)
        rw [show ((t.size / 2 : Nat) : Int) = (t.size : Int) / 2 by omega] at hr
        have H1 := Lib.hid h1
        have H0 := Lib.hid h0
        have HO := Lib.hid hown
        have HG := Lib.hid hg
        clear hl h1 h0 hown hg
        go_enter Tryd.func94, Tryd.ntmps94
        go_wp2
        have hit0 : (w1.iter t 0).heap[w1.heap.size]? = some (.stringIter t 0) := World.iter_heap w1 t 0
        have hsz1 := HG.out.size
        go_loopw [4, 5] (fun v l wr => ∃ k : Nat, k ≤ t.size ∧ l = .int .i64 (last t k : Nat) ∧ Rel t w w1.heap.size k v wr) (fun _ _ wr => t.size - wr.iterPos w1.heap.size)
        case atStart =>
          refine ⟨0, by omega, rfl, ⟨fun c hc => by simp at hc, ?_, hit0, ?_, hsz1⟩⟩
          · exact own_move HO.out fun k hk => by
              obtain ⟨_, c, hc⟩ := own_typed HO.out k hk
              have := (Array.getElem?_eq_some_iff.1 hc).1
              exact Array.getElem?_push_lt this |>.trans (Array.getElem?_eq_getElem this).symm
          · exact ((Below.refl _ w).grown HG.out (Nat.le_refl _) (fun k h => by cases h)).alloc hsz1 _
        case round =>
          obtain ⟨k, hk, rfl, hrl⟩ := hrel
          have HR := Lib.hid hrl
          have hit := hrl.iter
          have hge := hrl.ge
          clear hrl
          by_cases hp : k < t.size
          · by_cases hw : Hx.worth t[k].toNat = 16
            · have hnx : ∀ ty, (Instr.next (.pointer (some ⟨w1.heap.size, 0, none⟩)) true ty).run Tryd.prog wr = _ := fun ty => Lib.run_next_any_at wr w1.heap.size t k ty hit hp
              have hc := decode_le t k
              have HW := Lib.hid ((decode_worth t k hp).trans hw)
              have HE := Lib.hid (out_none (parse_bad t H1.out H0.out k hp hw))
              have HB := Lib.hid (Lib.below_iterAt HR.out.below (k := w1.heap.size) (by omega) t (k + (Utf8.decode t k).2))
              generalize (Utf8.decode t k).1 = c at *
              go_wp2_with (go_at_call 122; refine (worth_any c (by omega) _).mono ?_; rw [HW.out]; rintro e w' ⟨rfl, rfl⟩)
              go_ret2
              exact ⟨by rw [HE.out.1, HE.out.2]; rfl, HB.out⟩
            · have hasc := worth_ascii hw
              have hnx : ∀ ty, (Instr.next (.pointer (some ⟨w1.heap.size, 0, none⟩)) true ty).run Tryd.prog wr = _ := fun ty => Lib.run_next_ascii_at wr w1.heap.size t k ty hit hp hasc
              have HB := Lib.hid (Lib.below_iterAt HR.out.below (k := w1.heap.size) hge t (k + 1))
              have HO2 := Lib.hid (own_iter HR.out.own hit (p' := k + 1))
              have HI2 := Lib.hid (Lib.iterAt_heap wr w1.heap.size t k (k + 1) hit)
              have HGd := Lib.hid (HR.out.good.succ hp hw)
              have hwl := Hx.worth_le t[k].toNat
              have b16 : ((Hx.worth t[k].toNat : Int) == 16) = false := by rw [beq_eq_false_iff_ne]; omega
              have HL := Lib.hid (last_succ t k)
              have hll := last_le t k
              by_cases hodd : k % 2 = 1
              · have b1 : ((k : Int) % 2 == 1) = true := by rw [beq_iff_eq]; omega
                have HO3 := Lib.hid (HO2.out.alloc (Obj.cells #[Value.int IntKind.u8 ((16 * (last t k : Int) + (Hx.worth t[k].toNat : Int)) % 256)] 5))
                have hdl := dec_len t k (by omega)
                have hszr := HB.out.size
                go_wp2_with (first
                  | (go_at_call 122; refine (worth_any t[k].toNat (by omega) _).mono ?_; rintro e w' ⟨rfl, rfl⟩)
                  | (at_builtin; refine wpList_append_own _ rfl _ _ 89 rfl w.heap.size 5 i0 (.int .u8 0) 1 1 Tryd.underlying89 hi hz0 hz1 hz2 rfl (by decide) _ _ _ rfl HO3.out ⟨(wr.iterAt w1.heap.size t (k + 1)).heap.size, 0, none⟩ 1 1 [.int .u8 ((16 * (last t k : Int) + (Hx.worth t[k].toNat : Int)) % 256)] rfl rfl ?c1 ?c2 ?c3 ?c4 ?c5 ?_))
                case c1 => intro j u hj; exact cell_new1 _ _ _ j u hj
                case c2 => intro u hu; simp at hu; subst hu; rfl
                case c3 => unfold maxLen; omega
                case c4 => omega
                case c5 => rw [World.size_alloc]; omega
                intro v' w3 hown3 hgrow3 _
                have HO4 := Lib.hid hown3
                have HG4 := Lib.hid hgrow3
                clear hown3 hgrow3
                go_wp2
                refine ⟨⟨k + 1, by omega, ?_, ?_⟩, ?_⟩
                · rw [HL.out]; unfold wt; rw [getD_at t k hp]
                · have hit3 : w3.heap[w1.heap.size]? = some (.stringIter t (k + 1)) := by
                    rw [HG4.out.block _ (by rw [World.size_alloc]; have := (Array.getElem?_eq_some_iff.1 HI2.out).1; omega) (fun e => by
                      obtain ⟨_, c, hc⟩ := own_typed HO2.out _ e.symm
                      rw [HI2.out] at hc; cases hc)]
                    exact (Lib.alloc_old _ _ _ ((Array.getElem?_eq_some_iff.1 HI2.out).1)).trans HI2.out
                  refine ⟨HGd.out, ?_, hit3, ?_, hge⟩
                  · rw [dec_odd t k hp hodd, List.length_append]
                    have e1 : cells (Hx.dec (t.data.toList.take k) ++ [UInt8.ofNat (16 * last t k + Hx.worth t[k].toNat)]) = cells (Hx.dec (t.data.toList.take k)) ++ [.int .u8 ((16 * (last t k : Int) + (Hx.worth t[k].toNat : Int)) % 256)] := by
                      unfold cells
                      rw [List.map_append]
                      congr 1
                    have h4 := HO4.out
                    rw [← hdl] at h4
                    rw [e1]; exact h4
                  · exact (HB.out.alloc (by omega) _).grown HG4.out (by rw [World.size_alloc]; omega) (fun g hg => (own_typed HO2.out g hg).1)
                · rw [World.iterPos, World.iterPos, hit]
                  have hit3 : w3.heap[w1.heap.size]? = some (.stringIter t (k + 1)) := by
                    rw [HG4.out.block _ (by rw [World.size_alloc]; have := (Array.getElem?_eq_some_iff.1 HI2.out).1; omega) (fun e => by
                      obtain ⟨_, c, hc⟩ := own_typed HO2.out _ e.symm
                      rw [HI2.out] at hc; cases hc)]
                    exact (Lib.alloc_old _ _ _ ((Array.getElem?_eq_some_iff.1 HI2.out).1)).trans HI2.out
                  rw [hit3]; show t.size - (k + 1) < t.size - k; omega
              · have b1 : ((k : Int) % 2 == 1) = false := by rw [beq_eq_false_iff_ne]; omega
                go_wp2_with (go_at_call 122; refine (worth_any t[k].toNat (by omega) _).mono ?_; rintro e w' ⟨rfl, rfl⟩)
                refine ⟨⟨k + 1, by omega, ?_, ?_⟩, ?_⟩
                · rw [HL.out]; unfold wt; rw [getD_at t k hp]
                · refine ⟨HGd.out, ?_, HI2.out, HB.out, hge⟩
                  rw [dec_even t k hp (by omega)]; exact HO2.out
                · rw [World.iterPos, World.iterPos, HI2.out, hit]; show t.size - (k + 1) < t.size - k; omega
          · have hnx : ∀ ty, (Instr.next (.pointer (some ⟨w1.heap.size, 0, none⟩)) true ty).run Tryd.prog wr = _ := fun ty => Lib.run_next_end_at wr w1.heap.size t k ty hit hp
            have hkk : k = t.size := by omega
            have hall : t.data.toList.take k = t.data.toList := by rw [hkk, ← size_list, List.take_length]
            have hcv := own_conv (P := Tryd.prog) (dst := 9) Tryd.underlying89 Tryd.underlying5 Tryd.underlying9 HR.out.own rfl
            have HE := Lib.hid (out_some (parse_all t H1.out H0.out (by omega) (hkk ▸ HR.out.good)))
            rw [hall] at hcv
            clear hall
            go_wp2
            go_ret2
            exact ⟨by rw [HE.out.1, HE.out.2]; rfl, HR.out.below⟩
def Tab (w : World) : Prop := 1 < w.heap.size ∧ ∀ i : Nat, i < 16 → w.cell? ⟨1, i, none⟩ = some (.int .u8 ((Hx.dig i).toNat : Int))
theorem Tab.below {w w' : World} (h : Tab w) (hb : Below w.heap.size w w') : Tab w' :=
  ⟨Nat.lt_of_lt_of_le h.1 hb.size, fun i hi => by rw [hb.cell (p := ⟨1, i, none⟩) h.1]; exact h.2 i hi⟩
structure Rp (s : ByteArray) (w : World) (k : Nat) (v : Value) (wr : World) : Prop where
  own : wr.ownsRow w.heap.size 5 1 v (2 * k) (cells ((s.data.toList.take k).flatMap Hx.two))
  below : Below w.heap.size w wr
set_option maxHeartbeats 4000000 in
set_option maxRecDepth 100000 in
theorem print_any (s : ByteArray) (hs : s.size ≤ 1099511627776) (w : World) (tab : Tab w) :
    Calls Tryd.prog 55 #[.string s] w fun e w' => e = .returned (.string ⟨(Hx.print s.data.toList).toArray⟩) ∧ Below w.heap.size w w' := by
  have hl : s.toList = s.data.toList := ByteArray.toList_eq s
  by_cases h0 : s.data.toList = []
  · have b0 : s.toList.isEmpty = true := by rw [hl, h0]; rfl
    have b0' : s.toList = [] := by rw [hl, h0]
    have e1 : Hx.print s.data.toList = [45] := by rw [h0]; rfl
    rw [e1]
    clear hl h0 e1
    go_enter Tryd.func55, Tryd.ntmps55
    go_wp2
    go_ret
    exact ⟨rfl, Below.refl _ _⟩
  · have b0 : s.toList.isEmpty = false := by rw [hl]; simpa using h0
    obtain ⟨i0, hi, hz0, hz1, hz2⟩ := info_parts info_u8
    obtain ⟨w1, hr, hown, hg⟩ := run_make_own (P := Tryd.prog) w w.heap.size 89 5 i0 (.int .u8 0) 1 Tryd.underlying89 hi hz0 hz1 .i64 .i64 (2 * s.size) (by rw [hz2]; omega) (by unfold maxLen; omega) (Nat.le_refl _)
    rw [show ((2 * s.size : Nat) : Int) = 2 * (s.size : Int) by omega] at hr
    have H0 := Lib.hid h0
    have HO := Lib.hid hown
    have HG := Lib.hid hg
    have HT := Lib.hid tab
    clear hl h0 hown hg tab
    go_enter Tryd.func55, Tryd.ntmps55
    go_wp2
    go_loopw [3, 4] (fun v i wr => ∃ k : Nat, k ≤ s.size ∧ i = .int .i64 k ∧ Rp s w k v wr) (fun _ i _ => s.size - (intOf i).toNat)
    case atStart => exact ⟨0, by omega, rfl, ⟨HO.out, (Below.refl _ w).grown HG.out (Nat.le_refl _) (fun k h => by cases h)⟩⟩
    case round =>
      obtain ⟨k, hk, rfl, hrl⟩ := hrel
      have HR := Lib.hid hrl
      clear hrl
      by_cases hp : k < s.size
      · have hc := s[k].toNat_lt
        have ht := HT.out.below HR.out.below
        have g1 : wr.cell? ⟨1, s[k].toNat / 16, none⟩ = some (.int .u8 ((Hx.dig (s[k].toNat / 16)).toNat : Int)) := ht.2 _ (by omega)
        have g2 : wr.cell? ⟨1, s[k].toNat % 16, none⟩ = some (.int .u8 ((Hx.dig (s[k].toNat % 16)).toNat : Int)) := ht.2 _ (by omega)
        have e15 : bits .and .u8 (s[k].toNat : Int) 15 = (s[k].toNat : Int) % 16 := u8_and15 _ (by omega) (by omega)
        have e16 : ((s[k].toNat : Int) / 16).toNat = s[k].toNat / 16 := by omega
        have e17 : ((s[k].toNat : Int) % 16).toNat = s[k].toNat % 16 := by omega
        have q1 : (0 : Int) ≤ (s[k].toNat : Int) / 16 := by omega
        have q2 : (s[k].toNat : Int) / 16 < 16 := by omega
        have q3 : (0 : Int) ≤ (s[k].toNat : Int) % 16 := by omega
        have q4 : (s[k].toNat : Int) % 16 < 16 := by omega
        clear ht
        go_wp2
        have hown := HR.out.own
        have hbase : w.heap.size ≤ wr.heap.size := HR.out.below.size
        have hgl := HT.out.1
        have ag : u3.ownBlock ≠ some 1 := fun e => by have := (own_typed hown _ e).1; omega
        have hn : 2 * k + 2 ≤ maxLen := by unfold maxLen; omega
        have hb : (2 * k + 2) * 1 ≤ 140737488355328 := by omega
        go_region_held3 (fun w' => w'.cell? ⟨1, s[k].toNat / 16, none⟩ = some (.int .u8 ((Hx.dig (s[k].toNat / 16)).toNat : Int)) ∧ w'.cell? ⟨1, s[k].toNat % 16, none⟩ = some (.int .u8 ((Hx.dig (s[k].toNat % 16)).toNat : Int)))
          (first
            | go_keep
            | (go_split_ands
               refine ⟨?_, ?_⟩
               · (rw [hgrow.cell_far _ (by first | (simp; done) | (simp; omega)) (Ne.symm ag)]; assumption)
               · (rw [hgrow.cell_far _ (by first | (simp; done) | (simp; omega)) (Ne.symm ag)]; assumption)))
          ((refine step_append_lies _ (by rfl) _ _ _ (by rfl) w.heap.size 5 i0 _ 1 1 Tryd.underlying89 hi hz0 hz1 hz2 rfl (by omega) u3 (2 * k) (cells ((s.data.toList.take k).flatMap Hx.two)) (by rfl) ((hown.alloc _).drew)
              ⟨wr.heap.size, 0, none⟩ 2 2 [.int .u8 ((Hx.dig (s[k].toNat / 16)).toNat : Int), .int .u8 ((Hx.dig (s[k].toNat % 16)).toNat : Int)] (by rfl) (by rfl) (World.news_of_block (cs := #[.int .u8 ((Hx.dig (s[k].toNat / 16)).toNat : Int), .int .u8 ((Hx.dig (s[k].toNat % 16)).toNat : Int)]) (t := 5) (fr := (0, 0)) (heap_alloc_new wr _)) (by simp [Value.oneCell'])
              (by omega) hn hb (by simp; omega) (wr.heap.size + 1) (by simp) ?_; intro gg cap w3 hown3 hgrow hat hlt))
        all_goals
          have HO3 := Lib.hid hown3
          have HG3 := Lib.hid hgrow
          have HX := Lib.hid hown
          clear hown3 hgrow hat hlt hown ag
          go_wp2
          refine ⟨⟨k + 1, by omega, by go_num, ?_, ?_⟩, ?_⟩
          · have e1 : cells ((s.data.toList.take (k + 1)).flatMap Hx.two) = cells ((s.data.toList.take k).flatMap Hx.two) ++ [.int .u8 ((Hx.dig (s[k].toNat / 16)).toNat : Int), .int .u8 ((Hx.dig (s[k].toNat % 16)).toNat : Int)] := by
              rw [take_snoc s k hp, List.flatMap_append]; unfold cells; rw [List.map_append]; rfl
            rw [e1, show 2 * (k + 1) = 2 * k + 2 by omega]; exact HO3.out
          · exact (((HR.out.below.alloc hbase _).drew).grown HG3.out (by simp; omega) (fun g hg => (own_typed HX.out g hg).1))
          · show s.size - ((k : Int) + 1).toNat < s.size - (k : Int).toNat
            omega
      · have hkk : k = s.size := by omega
        have hall : s.data.toList.take k = s.data.toList := by rw [hkk, ← size_list, List.take_length]
        have hown := HR.out.own
        rw [hall] at hown
        have hcv := own_conv (P := Tryd.prog) (dst := 9) Tryd.underlying89 Tryd.underlying5 Tryd.underlying9 hown (by rw [Hx.length_two, size_list, hkk])
        have hE : Hx.print s.data.toList = s.data.toList.flatMap Hx.two := by unfold Hx.print; rw [if_neg H0.out]
        have HE := Lib.hid hE
        clear hE
        clear hall hown
        go_wp2
        go_ret
        exact ⟨by rw [HE.out]; rfl, HR.out.below⟩
end Go.Proofs.YtdibkhddhgaghaaDoor.Hxw
