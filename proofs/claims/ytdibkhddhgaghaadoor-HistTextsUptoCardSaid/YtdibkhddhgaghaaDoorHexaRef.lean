/- The walks of the reference of the package hexa: what its Print and Parse return, for every text of at most 2^40 bytes. -/
import Derived.Test.YtdibkhddhgaghaaDoorHexaWalk
import Derived.IntWalk
namespace Go.Proofs.YtdibkhddhgaghaaDoor.HxRef
open Go.RowKit Hxw
set_option maxHeartbeats 400000 in
theorem digit_any (n : Nat) (h : n < 16) (w : World) : Calls Tryd.prog 98 #[.int .i64 n] w fun e w' => e = .returned (.int .u8 ((Hx.dig n).toNat : Int)) ∧ w = w' := by
  have e := Hx.dig_toNat n h
  by_cases h1 : n < 10
  · rw [if_pos h1] at e
    go_enter Tryd.func98, Tryd.ntmps98
    go_wp2
    go_ret
    exact ⟨ret_int (by omega), rfl⟩
  · rw [if_neg h1] at e
    go_enter Tryd.func98, Tryd.ntmps98
    go_wp2
    go_ret
    exact ⟨ret_int (by omega), rfl⟩
theorem digit_int (z : Int) (n : Nat) (hz : z = n) (h : n < 16) (w : World) : Calls Tryd.prog 98 #[.int .i64 z] w fun e w' => e = .returned (.int .u8 ((Hx.dig n).toNat : Int)) ∧ w = w' := by
  subst hz; exact digit_any n h w
/-- what the inner loop has found after k rounds -/
def at_ (a b : UInt8) (k : Nat) : Int := if Hx.worth a.toNat ≠ 16 ∧ Hx.worth b.toNat ≠ 16 ∧ 16 * Hx.worth a.toNat + Hx.worth b.toNat < k then (16 * Hx.worth a.toNat + Hx.worth b.toNat : Nat) else -1
theorem dig_eq (n : Nat) (h : n < 16) (a : UInt8) : Hx.dig n = a ↔ Hx.worth a.toNat = n := by
  constructor
  · rintro rfl; exact Hx.worth_dig n h
  · intro e; rw [← e]; exact Hx.dig_worth a (by omega)
theorem hit_iff (a b : UInt8) (k : Nat) (h : k < 256) : (Hx.dig (k / 16) = a ∧ Hx.dig (k % 16) = b) ↔ (Hx.worth a.toNat ≠ 16 ∧ Hx.worth b.toNat ≠ 16 ∧ 16 * Hx.worth a.toNat + Hx.worth b.toNat = k) := by
  rw [dig_eq _ (by omega), dig_eq _ (by omega)]
  have := Hx.worth_le a.toNat
  have := Hx.worth_le b.toNat
  omega
theorem at_hit (a b : UInt8) (k : Nat) (h : k < 256) (h' : Hx.dig (k / 16) = a ∧ Hx.dig (k % 16) = b) : at_ a b (k + 1) = (k : Int) := by
  obtain ⟨h1, h2, h3⟩ := (hit_iff a b k h).mp h'
  unfold at_
  rw [if_pos ⟨h1, h2, by omega⟩, h3]
theorem at_miss (a b : UInt8) (k : Nat) (h : k < 256) (h' : ¬ (Hx.dig (k / 16) = a ∧ Hx.dig (k % 16) = b)) : at_ a b (k + 1) = at_ a b k := by
  have h3 := fun q => h' ((hit_iff a b k h).mpr q)
  unfold at_
  by_cases h4 : Hx.worth a.toNat ≠ 16 ∧ Hx.worth b.toNat ≠ 16 ∧ 16 * Hx.worth a.toNat + Hx.worth b.toNat < k
  · rw [if_pos h4, if_pos ⟨h4.1, h4.2.1, by omega⟩]
  · rw [if_neg h4, if_neg]
    rintro ⟨q1, q2, q3⟩
    exact h4 ⟨q1, q2, by have : 16 * Hx.worth a.toNat + Hx.worth b.toNat ≠ k := fun q => h3 ⟨q1, q2, q⟩
                         omega⟩
theorem at_start (a b : UInt8) : at_ a b 0 = -1 := by unfold at_; rw [if_neg (by omega)]
theorem at_end (a b : UInt8) : at_ a b 256 = if Hx.worth a.toNat ≠ 16 ∧ Hx.worth b.toNat ≠ 16 then ((16 * Hx.worth a.toNat + Hx.worth b.toNat : Nat) : Int) else -1 := by
  have := Hx.worth_le a.toNat
  have := Hx.worth_le b.toNat
  unfold at_
  by_cases h : Hx.worth a.toNat ≠ 16 ∧ Hx.worth b.toNat ≠ 16
  · rw [if_pos h, if_pos ⟨h.1, h.2, by omega⟩]
  · rw [if_neg h, if_neg (fun q => h ⟨q.1, q.2.1⟩)]
theorem at_bound (a b : UInt8) (k : Nat) : -1 ≤ at_ a b k ∧ at_ a b k < 256 := by
  have := Hx.worth_le a.toNat
  have := Hx.worth_le b.toNat
  unfold at_
  split <;> omega
theorem u8_eq (a b : UInt8) : ((a.toNat : Int) == (b.toNat : Int)) = decide (a = b) := by
  by_cases h : a = b
  · subst h; simp
  · have : a.toNat ≠ b.toNat := fun e => h (UInt8.toNat_inj.mp e)
    rw [decide_eq_false h, beq_eq_false_iff_ne]; omega
theorem qs {P : Program} {f : FuncId} {args : Array Value} {w : World} {n : Nat} {v : Value} (h : Calls P f args (w.drewN n) fun e w' => e = .returned v ∧ w.drewN n = w') : Calls P f args (w.drewN n) fun e w'' => e = .returned v ∧ ∃ m, w'' = w.drewN m :=
  Calls.quiet_of_same (h.mono fun _ _ ⟨a, b⟩ => ⟨a, b.symm⟩)
theorem below_drewN {B : Nat} {a w : World} (h : Below B a w) (n : Nat) : Below B a (w.drewN n) := h.trans ⟨rfl, rfl, rfl, Nat.le_refl _, fun _ _ => rfl⟩
theorem drew_more {wo wr : World} (h : ∃ n, wr = wo.drewN n) (m : Nat) : ∃ n, wr.drewN m = wo.drewN n := by
  obtain ⟨n, rfl⟩ := h
  exact ⟨n + m, World.drewN_drewN _ _ _⟩
theorem parse_bad2 (t : ByteArray) (h1 : t.data.toList ≠ [45]) (k : Nat) (hk : k + 1 < t.size) (hw : ¬ (Hx.worth (t[k]'(by omega)).toNat ≠ 16 ∧ Hx.worth t[k + 1].toNat ≠ 16)) : Hx.parse t.data.toList = none := by
  have h0 : t.data.toList ≠ [] := fun h => by
    have := size_list t
    rw [h] at this
    have : t.size = 0 := this.symm
    omega
  by_cases ha : Hx.worth (t[k]'(by omega)).toNat = 16
  · exact parse_bad t h1 h0 k (by omega) ha
  · exact parse_bad t h1 h0 (k + 1) hk (Decidable.byContradiction fun hb => hw ⟨ha, hb⟩)
theorem own_slice {w : World} {base : Nat} {e : TypeId} {size n : Nat} {v : Value} {xs : List Value} (h : w.ownsRow base e size v n xs) : ∃ A C, v = .slice A n C := by
  rcases h.2 with ⟨rfl, rfl⟩ | ⟨g, cap, cur, rfl, _⟩
  · exact ⟨_, _, rfl⟩
  · exact ⟨_, _, rfl⟩
theorem dec_two (t : ByteArray) (k : Nat) (hk : k + 1 < t.size) (he : k % 2 = 0) : Hx.dec (t.data.toList.take (k + 2)) = Hx.dec (t.data.toList.take k) ++ [UInt8.ofNat (16 * Hx.worth (t[k]'(by omega)).toNat + Hx.worth t[k + 1].toNat)] := by
  have h1 := dec_odd t (k + 1) hk (by omega)
  have h2 := dec_even t k (by omega) he
  rw [h1, h2, last_succ]
  unfold wt
  rw [getD_at t k (by omega)]
structure Rel2 (t : ByteArray) (w : World) (k : Nat) (v : Value) (wr : World) : Prop where
  good : Hxw.Good t k
  own : wr.ownsRow w.heap.size 5 1 v (Hx.dec (t.data.toList.take k)).length (cells (Hx.dec (t.data.toList.take k)))
  below : Below w.heap.size w wr
set_option maxHeartbeats 4000000 in
set_option maxRecDepth 100000 in
theorem parse_any (t : ByteArray) (ht : t.size ≤ 1099511627776) (w : World) :
    Calls Tryd.prog 95 #[.string t] w fun e w' => e = .returned (.tuple #[.string (out t), .int .i64 (err t)]) ∧ Below w.heap.size w w' := by
  have hl : t.toList = t.data.toList := ByteArray.toList_eq t
  by_cases h1 : t.data.toList = [45]
  · have b1 : (t.toList == [45]) = true := by rw [hl, h1]; rfl
    obtain ⟨e1, e2⟩ := out_some (t := t) (l := []) (by unfold Hx.parse; rw [if_pos h1])
    rw [e1, e2]
    clear hl h1 e1 e2
    go_enter Tryd.func95, Tryd.ntmps95
    go_wp2
    go_ret2
    exact ⟨rfl, Below.refl _ _⟩
  · have b1 : (t.toList == [45]) = false := by rw [hl]; simpa using h1
    have H1 := Lib.hid h1
    obtain ⟨i0, hi, hz0, hz1, hz2⟩ := info_parts info_u8
    clear hl h1
    go_enter Tryd.func95, Tryd.ntmps95
    go_wp2
    go_loopw [4, 5] (fun v i wr => ∃ k : Nat, k ≤ t.size ∧ k % 2 = 0 ∧ i = .int .i64 k ∧ Rel2 t w k v wr) (fun _ i _ => t.size - (intOf i).toNat)
    case atStart =>
      refine ⟨0, by omega, rfl, rfl, ⟨fun c hc => by simp at hc, ?_, (Below.refl _ _).alloc (Nat.le_refl _) _⟩⟩
      exact ⟨rfl, .inr ⟨w.heap.size, 0, #[], rfl, Nat.le_refl _, heap_alloc_new w _, Nat.le_refl _, by unfold maxLen; omega, rfl, rfl⟩⟩
    case round =>
      obtain ⟨k, hk, hev, rfl, hrl⟩ := hrel
      have HR := Lib.hid hrl
      clear hrl
      by_cases hp : k < t.size
      · have d14 : decide ((k : Int) < (t.size : Int)) = true := decide_eq_true (by omega)
        by_cases hp1 : k + 1 = t.size
        · have d21 : ((k : Int) + 1 == (t.size : Int)) = true := by rw [beq_iff_eq]; omega
          have HE := Lib.hid (out_none (parse_odd t H1.out (by omega)))
          go_wp2
          go_ret2
          exact ⟨by rw [HE.out.1, HE.out.2]; rfl, HR.out.below⟩
        · have d21 : ((k : Int) + 1 == (t.size : Int)) = false := by rw [beq_eq_false_iff_ne]; omega
          have hp2 : k + 1 < t.size := by omega
          go_wp2
          obtain ⟨wo, rfl⟩ : ∃ wo : World, wo = wr := ⟨_, rfl⟩
          go_loopw [6, 7] (fun a b wr => ∃ j : Nat, j ≤ 256 ∧ b = .int .i64 j ∧ a = .int .i64 (at_ t[k] t[k + 1] j) ∧ ∃ n, wr = wo.drewN n) (fun _ b _ => 256 - (intOf b).toNat)
          case atStart => exact ⟨0, by omega, rfl, by rw [at_start], 0, rfl⟩
          case round =>
            obtain ⟨j, hj, rfl, rfl, hdr⟩ := hrel
            have HD := Lib.hid hdr
            clear hdr
            by_cases hj1 : j < 256
            · have E1 := Lib.hid (show ((j : Int) / 16) = ((j / 16 : Nat) : Int) by omega)
              have F1 := Lib.hid (show j / 16 < 16 by omega)
              have F2 := Lib.hid (show j % 16 < 16 by omega)
              have E2 := Lib.hid (show ((j : Int) % 16) = ((j % 16 : Nat) : Int) by omega)
              by_cases ha : Hx.dig (j / 16) = t[k]
              · have g1 : (((Hx.dig (j / 16)).toNat : Int) == (t[k].toNat : Int)) = true := by rw [u8_eq]; simpa using ha
                by_cases hb : Hx.dig (j % 16) = t[k + 1]
                · have g2 : (((Hx.dig (j % 16)).toNat : Int) == (t[k + 1].toNat : Int)) = true := by rw [u8_eq]; simpa using hb
                  have HN := Lib.hid (at_hit t[k] t[k + 1] j hj1 ⟨ha, hb⟩)
                  clear ha hb
                  go_wp2
                  have l1 : IntKind.i64.wrap ((j : Int) / 16) = (j : Int) / 16 := IntWalk.i64_in _ (by omega)
                  have l2 : IntKind.i64.wrap ((k : Int) + 1) = (k : Int) + 1 := IntWalk.i64_in _ (by omega)
                  have l3 : (j : Int).tmod 16 = (j : Int) % 16 := Int.tmod_eq_emod_of_nonneg (by omega)
                  have l4 : (0 : Int) ≤ (k : Int) + 1 := by omega
                  have l5 : (k : Int) + 1 < (t.size : Int) := by omega
                  have l6 : ((k : Int) + 1).toNat = k + 1 := by omega
                  go_quiet (first | (go_at_call 98; with_reducible exact qs (digit_int _ (j / 16) E1.out F1.out _)) | (go_at_call 98; with_reducible exact qs (digit_int _ (j % 16) E2.out F2.out _)))
                  clear l1 l2 l3
                  go_wp2
                  exact ⟨⟨j + 1, by omega, by go_num, by rw [HN.out], drew_more HD.out _⟩, by show 256 - ((j : Int) + 1).toNat < 256 - (j : Int).toNat; omega⟩
                · have g2 : (((Hx.dig (j % 16)).toNat : Int) == (t[k + 1].toNat : Int)) = false := by rw [u8_eq]; simpa using hb
                  have HN := Lib.hid (at_miss t[k] t[k + 1] j hj1 (fun q => hb q.2))
                  clear ha hb
                  go_wp2
                  have l1 : IntKind.i64.wrap ((j : Int) / 16) = (j : Int) / 16 := IntWalk.i64_in _ (by omega)
                  have l2 : IntKind.i64.wrap ((k : Int) + 1) = (k : Int) + 1 := IntWalk.i64_in _ (by omega)
                  have l3 : (j : Int).tmod 16 = (j : Int) % 16 := Int.tmod_eq_emod_of_nonneg (by omega)
                  have l4 : (0 : Int) ≤ (k : Int) + 1 := by omega
                  have l5 : (k : Int) + 1 < (t.size : Int) := by omega
                  have l6 : ((k : Int) + 1).toNat = k + 1 := by omega
                  go_quiet (first | (go_at_call 98; with_reducible exact qs (digit_int _ (j / 16) E1.out F1.out _)) | (go_at_call 98; with_reducible exact qs (digit_int _ (j % 16) E2.out F2.out _)))
                  clear l1 l2 l3
                  go_wp2
                  exact ⟨⟨j + 1, by omega, by go_num, by rw [HN.out], drew_more HD.out _⟩, by show 256 - ((j : Int) + 1).toNat < 256 - (j : Int).toNat; omega⟩
              · have g1 : (((Hx.dig (j / 16)).toNat : Int) == (t[k].toNat : Int)) = false := by rw [u8_eq]; simpa using ha
                have HN := Lib.hid (at_miss t[k] t[k + 1] j hj1 (fun q => ha q.1))
                clear ha
                go_wp2
                have l1 : IntKind.i64.wrap ((j : Int) / 16) = (j : Int) / 16 := IntWalk.i64_in _ (by omega)
                go_quiet ((go_at_call 98; with_reducible exact qs (digit_int _ (j / 16) E1.out F1.out _)))
                clear l1
                go_wp2
                exact ⟨⟨j + 1, by omega, by go_num, by rw [HN.out], drew_more HD.out _⟩, by show 256 - ((j : Int) + 1).toNat < 256 - (j : Int).toNat; omega⟩
            · have hj2 : j = 256 := by omega
              subst hj2
              by_cases hw : Hx.worth t[k].toNat ≠ 16 ∧ Hx.worth t[k + 1].toNat ≠ 16
              · have ha : at_ t[k] t[k + 1] 256 = ((16 * Hx.worth t[k].toNat + Hx.worth t[k + 1].toNat : Nat) : Int) := by rw [at_end, if_pos hw]
                rw [ha]
                have hwb : 16 * Hx.worth t[k].toNat + Hx.worth t[k + 1].toNat < 256 := by
                  have := Hx.worth_le t[k].toNat
                  have := Hx.worth_le t[k + 1].toNat
                  omega
                have HW := Lib.hid hw
                have HV := Lib.hid (dec_two t k hp2 hev)
                have HGd := Lib.hid ((HR.out.good.succ hp hw.1).succ hp2 hw.2)
                clear ha hw
                generalize hv : 16 * Hx.worth t[k].toNat + Hx.worth t[k + 1].toNat = v at *
                clear hv
                have hvi : (v : Int) < 256 := by omega
                obtain ⟨n, hn⟩ := HD.out
                have HO := Lib.hid (show wr.ownsRow w.heap.size 5 1 u4 (Hx.dec (t.data.toList.take k)).length (cells (Hx.dec (t.data.toList.take k))) by rw [hn]; exact HR.out.own)
                have HB := Lib.hid (show Below w.heap.size w wr by rw [hn]; exact below_drewN HR.out.below n)
                clear hn
                have HO3 := Lib.hid (HO.out.alloc (Obj.cells #[Value.int IntKind.u8 ((v : Int))] 5))
                have hdl := dec_len t k (by omega)
                have hszr := HB.out.size
                go_wp2_with ((at_builtin; refine wpList_append_own _ rfl _ _ 89 rfl w.heap.size 5 i0 (.int .u8 0) 1 1 Tryd.underlying89 hi hz0 hz1 hz2 rfl (by decide) _ _ _ rfl HO3.out ⟨wr.heap.size, 0, none⟩ 1 1 [.int .u8 ((v : Int))] rfl rfl ?c1 ?c2 ?c3 ?c4 ?c5 ?_))
                case c1 => intro j u hj; exact cell_new1 _ _ _ j u hj
                case c2 => intro u hu; simp at hu; subst hu; rfl
                case c3 => unfold maxLen; omega
                case c4 => omega
                case c5 => rw [World.size_alloc]; omega
                intro v' w3 hown3 hgrow3 _
                have HO4 := Lib.hid hown3
                have HG4 := Lib.hid hgrow3
                clear hown3 hgrow3
                go_wp2
                refine ⟨⟨k + 2, by omega, by omega, by go_num, ⟨HGd.out, ?_, ?_⟩⟩, by show t.size - ((k : Int) + 2).toNat < t.size - (k : Int).toNat; omega⟩
                · have h4 := HO4.out
                  rw [← hdl] at h4
                  rw [HV.out, List.length_append]
                  have e1 : cells (Hx.dec (t.data.toList.take k) ++ [UInt8.ofNat v]) = cells (Hx.dec (t.data.toList.take k)) ++ [.int .u8 ((v : Int))] := by
                    unfold cells
                    rw [List.map_append]
                    have e2 : (UInt8.ofNat v).toNat = v := UInt8.toNat_ofNat_of_lt' (by show v < 256; omega)
                    simp only [List.map_cons, List.map_nil, e2]
                  rw [e1]; exact h4
                · exact (HB.out.alloc (by omega) _).grown HG4.out (by rw [World.size_alloc]; omega) (fun g hg => (own_typed HO.out g hg).1)
              · have ha : at_ t[k] t[k + 1] 256 = -1 := by rw [at_end, if_neg hw]
                rw [ha]
                have HE : ∃ q : True, (out t = ⟨#[]⟩ ∧ err t = 3) := ⟨trivial, out_none (parse_bad2 t H1.out k hp2 hw)⟩
                have HE := Lib.hid HE
                clear ha hw
                go_wp2
                go_ret2
                obtain ⟨_, h1, h2⟩ := HE.out
                obtain ⟨n, hn⟩ := HD.out
                exact ⟨by rw [h1, h2]; rfl, by rw [hn]; exact below_drewN HR.out.below n⟩
      · have hkk : k = t.size := by omega
        have hall : t.data.toList.take k = t.data.toList := by rw [hkk, ← size_list, List.take_length]
        have d14 : decide ((k : Int) < (t.size : Int)) = false := decide_eq_false (by omega)
        have hdl := dec_len t k (by omega)
        obtain ⟨A, C, e4⟩ := own_slice HR.out.own
        have hcv := own_conv (P := Tryd.prog) (dst := 9) Tryd.underlying89 Tryd.underlying5 Tryd.underlying9 HR.out.own rfl
        rw [e4] at hcv
        rw [hdl] at e4 hcv
        rw [hall] at hcv
        by_cases h0 : t.size = 0
        · have d53 : ((k / 2 : Nat) : Int) = 0 := by omega
          have HE := Lib.hid (out_none (t := t) (by
            have : t.data.toList = [] := List.length_eq_zero_iff.mp (by rw [size_list]; exact h0)
            unfold Hx.parse; rw [this]; rfl))
          clear hcv hall
          subst e4
          have hk0 : k = 0 := by omega
          subst hk0
          clear hkk hdl h0
          go_wp2
          go_ret2
          exact ⟨by rw [HE.out.1, HE.out.2]; rfl, HR.out.below⟩
        · have h00 : t.data.toList ≠ [] := fun h => h0 (by rw [← size_list, h]; rfl)
          have HE := Lib.hid (out_some (parse_all t H1.out h00 (by omega) (hkk ▸ HR.out.good)))
          have d53 : (((k / 2 : Nat) : Int) == 0) = false := by rw [beq_eq_false_iff_ne]; omega
          have d54 : ((k : Int) / 2 == 0) = false := by rw [beq_eq_false_iff_ne]; omega
          clear hall h00 hkk hdl
          subst e4
          go_wp2
          go_ret2
          exact ⟨by rw [HE.out.1, HE.out.2]; rfl, HR.out.below⟩
set_option maxHeartbeats 4000000 in
set_option maxRecDepth 100000 in
theorem print_any (s : ByteArray) (hs : s.size ≤ 1099511627776) (w : World) :
    Calls Tryd.prog 59 #[.string s] w fun e w' => e = .returned (.string ⟨(Hx.print s.data.toList).toArray⟩) ∧ Below w.heap.size w w' := by
  by_cases h0 : s.size = 0
  · have h00 : s.data.toList = [] := List.length_eq_zero_iff.mp (by rw [size_list]; exact h0)
    have e1 : Hx.print s.data.toList = [45] := by rw [h00]; rfl
    have b0 : ((s.size : Int) == 0) = true := by rw [beq_iff_eq]; omega
    rw [e1]
    clear h00 e1 h0
    go_enter Tryd.func59, Tryd.ntmps59
    go_wp2
    go_ret
    exact ⟨rfl, Below.refl _ _⟩
  · have b0 : ((s.size : Int) == 0) = false := by rw [beq_eq_false_iff_ne]; omega
    have H0 := Lib.hid (show s.data.toList ≠ [] from fun h => h0 (by rw [← size_list, h]; rfl))
    obtain ⟨i0, hi, hz0, hz1, hz2⟩ := info_parts info_u8
    clear h0
    go_enter Tryd.func59, Tryd.ntmps59
    go_wp2
    go_loopw [3, 4] (fun v i wr => ∃ k : Nat, k ≤ s.size ∧ i = .int .i64 k ∧ Rp s w k v wr) (fun _ i _ => s.size - (intOf i).toNat)
    case atStart => exact ⟨0, by omega, rfl, ⟨⟨rfl, .inr ⟨w.heap.size, 0, #[], rfl, Nat.le_refl _, heap_alloc_new w _, Nat.le_refl _, by unfold maxLen; omega, rfl, rfl⟩⟩, (Below.refl _ _).alloc (Nat.le_refl _) _⟩⟩
    case round =>
      obtain ⟨k, hk, rfl, hrl⟩ := hrel
      have HR := Lib.hid hrl
      clear hrl
      by_cases hp : k < s.size
      · have hc := s[k].toNat_lt
        have E1 := Lib.hid (show ((s[k].toNat : Int) / 16) = ((s[k].toNat / 16 : Nat) : Int) by omega)
        have F1 := Lib.hid (show s[k].toNat / 16 < 16 by omega)
        have F2 := Lib.hid (show s[k].toNat % 16 < 16 by omega)
        have E2 := Lib.hid (show ((s[k].toNat : Int) % 16) = ((s[k].toNat % 16 : Nat) : Int) by omega)
        have l1 : IntKind.i64.wrap ((s[k].toNat : Int) / 16) = (s[k].toNat : Int) / 16 := IntWalk.i64_in _ (by omega)
        have l2 : IntKind.i64.wrap (s[k].toNat : Int) = (s[k].toNat : Int) := IntWalk.i64_in _ (by omega)
        have l3 : (s[k].toNat : Int).tmod 16 = (s[k].toNat : Int) % 16 := Int.tmod_eq_emod_of_nonneg (by omega)
        have hown := HR.out.own
        have hbase : w.heap.size ≤ wr.heap.size := HR.out.below.size
        have hn : 2 * k + 2 ≤ maxLen := by unfold maxLen; omega
        have hb : (2 * k + 2) * 1 ≤ 140737488355328 := by omega
        go_wp2
        go_region_held3 (fun w' => True)
          (trivial)
          (first
            | (go_at_call 98; (with_reducible refine (digit_int _ (s[k].toNat / 16) E1.out F1.out _).mono ?_); rintro e w' ⟨rfl, rfl⟩)
            | (go_at_call 98; (with_reducible refine (digit_int _ (s[k].toNat % 16) E2.out F2.out _).mono ?_); rintro e w' ⟨rfl, rfl⟩)
            | (refine step_append_lies _ (by rfl) _ _ _ (by rfl) w.heap.size 5 i0 _ 1 1 Tryd.underlying89 hi hz0 hz1 hz2 rfl (by omega) u3 (2 * k) (cells ((s.data.toList.take k).flatMap Hx.two)) (by rfl) ((hown.alloc _).drew) ⟨wr.heap.size, 0, none⟩ 2 2 [.int .u8 ((Hx.dig (s[k].toNat / 16)).toNat : Int), .int .u8 ((Hx.dig (s[k].toNat % 16)).toNat : Int)] (by rfl) (by rfl) (World.news_of_block (cs := #[.int .u8 ((Hx.dig (s[k].toNat / 16)).toNat : Int), .int .u8 ((Hx.dig (s[k].toNat % 16)).toNat : Int)]) (t := 5) (fr := (0, 0)) (heap_alloc_new wr _)) (by simp [Value.oneCell']) (by omega) hn hb (by simp; omega) (wr.heap.size + 1) (by simp) ?_; intro gg cap w3 hown3 hgrow hat hlt))
        all_goals
          have HO3 := Lib.hid hown3
          have HG3 := Lib.hid hgrow
          have HX := Lib.hid hown
          clear hown3 hgrow hat hlt hown l1 l2 l3
          go_wp2
          refine ⟨⟨k + 1, by omega, by go_num, ?_, ?_⟩, ?_⟩
          · have e1 : cells ((s.data.toList.take (k + 1)).flatMap Hx.two) = cells ((s.data.toList.take k).flatMap Hx.two) ++ [.int .u8 ((Hx.dig (s[k].toNat / 16)).toNat : Int), .int .u8 ((Hx.dig (s[k].toNat % 16)).toNat : Int)] := by
              rw [take_snoc s k hp, List.flatMap_append]; unfold cells; rw [List.map_append]; rfl
            rw [e1, show 2 * (k + 1) = 2 * k + 2 by omega]; exact HO3.out
          · exact (((HR.out.below.alloc hbase _).drew).grown HG3.out (by simp; omega) (fun g hg => (own_typed HX.out g hg).1))
          · show s.size - ((k : Int) + 1).toNat < s.size - (k : Int).toNat
            omega
      · have hkk : k = s.size := by omega
        have hall : s.data.toList.take k = s.data.toList := by rw [hkk, ← size_list, List.take_length]
        have hown := HR.out.own
        rw [hall] at hown
        have hcv := own_conv (P := Tryd.prog) (dst := 9) Tryd.underlying89 Tryd.underlying5 Tryd.underlying9 hown (by rw [Hx.length_two, size_list, hkk])
        have hE : Hx.print s.data.toList = s.data.toList.flatMap Hx.two := by unfold Hx.print; rw [if_neg H0.out]
        have HE := Lib.hid hE
        clear hE
        clear hall hown
        go_wp2
        go_ret
        exact ⟨by rw [HE.out]; rfl, HR.out.below⟩
end Go.Proofs.YtdibkhddhgaghaaDoor.HxRef
