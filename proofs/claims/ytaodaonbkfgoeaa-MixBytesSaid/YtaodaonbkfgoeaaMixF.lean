/- The walk of MixBytes. -/
import Derived.Test.YtaodaonbkfgoeaaMixD
import Derived.RegionTactic
import Derived.Laws.IdiomStrings
import Derived.Lib.Hide
import Derived.BigRegion
import Derived.ChangeAlike
import Derived.Deep.RegionWith
namespace Go.Proofs.Ytaodaonbkfgoeaa.MixF
open Go.RowKit Go.Proofs.YtaodaonbkfgoeaaW.PrintWords Go.Proofs.Ytaodaonbkfgoeaa.MixA Go.Proofs.Ytaodaonbkfgoeaa.MixB Go.Proofs.Ytaodaonbkfgoeaa.MixC Go.Proofs.Ytaodaonbkfgoeaa.MixD Go.Proofs.Ytaodaonbkfgoeaa.PMixTells
open Go.Proofs.YtaodaonbkfgoeaaW.PrintLast Go.Proofs.YtaodaonbkfgoeaaW.PrintMore
theorem conv1 (x : UInt8) (W : World) : (convert 31 9 (.slice (some ⟨W.heap.size, 0, none⟩) 1 1)).run Try.prog (W.alloc (.cells #[.int .u8 x.toNat] 5)).drew = .ok (.string ⟨#[x]⟩) (W.alloc (.cells #[.int .u8 x.toNat] 5)).drew := by
  have := run_convert_bytes_back (P := Try.prog) (W.alloc (.cells #[.int .u8 x.toNat] 5)).drew 31 9 5 ⟨W.heap.size, 0, none⟩ 1 [x] Try.underlying31 Try.underlying5 Try.underlying9 (fun j hj => by
    have : j = 0 := by simp at hj; omega
    subst this
    simp [Addr.add])
  exact this
/-- what the round keeps: the two bytes in their box, nothing old changed -/
structure Rel (a b : UInt8) (w wr : World) : Prop where
  ca : wr.cell? ⟨w.heap.size, 0, none⟩ = some (.int .u8 a.toNat)
  cb : wr.cell? ⟨w.heap.size, 1, none⟩ = some (.int .u8 b.toNat)
  below : Below w.heap.size w wr
  size : w.heap.size + 1 ≤ wr.heap.size
theorem Rel.grow {a b : UInt8} {w wr : World} (r : Rel a b w wr) (x : Obj) : Rel a b w (wr.alloc x).drew := by
  have := r.size
  have ca := r.ca
  have cb := r.cb
  have h1 : (wr.alloc x).heap.size = wr.heap.size + 1 := by simp
  refine ⟨?_, ?_, ?_, ?_⟩
  · rw [← ca]; exact World.cell?_alloc_past x _ _ (by omega)
  · rw [← cb]; exact World.cell?_alloc_past x _ _ (by omega)
  · exact (r.below.alloc (by omega) _).drew
  · show w.heap.size + 1 ≤ (wr.alloc x).heap.size
    omega
theorem Rel.drewN {a b : UInt8} {w wr : World} (r : Rel a b w wr) (n : Nat) : Rel a b w (wr.drewN n) :=
  ⟨r.ca, r.cb, r.below.trans ((Drawn0.mk ⟨n, rfl⟩ : Drawn0 wr (wr.drewN n)).below.mono (by have := r.size; omega)), r.size⟩
def xs (s : ByteArray) (k : Nat) (a : UInt8) : ByteArray := s.extract 0 k ++ { data := #[a] } ++ s.extract k s.size
theorem xs_size (s : ByteArray) (k : Nat) (hk : k ≤ s.size) (a : UInt8) : (xs s k a).size = s.size + 1 := by
  unfold xs
  have h1 : (⟨#[a]⟩ : ByteArray).size = 1 := rfl
  rw [ByteArray.size_append, ByteArray.size_append, ByteArray.size_extract, ByteArray.size_extract, h1]
  omega
theorem xs_list (s : ByteArray) (k : Nat) (hk : k ≤ s.size) (a : UInt8) : (xs s k a).data.toList = s.data.toList.take k ++ [a] ++ s.data.toList.drop k := by
  unfold xs
  have h2 : k ≤ s.data.size := hk
  simp [ByteArray.data_append, ByteArray.data_extract]
  have h3 : s.size = s.data.toList.length := by simp
  rw [h3, List.take_of_length_le (by simp)]
theorem round_end (h : BitVec 64) (s : ByteArray) (k : Nat) (hk : k ≤ s.size) (a b : UInt8) :
    ((I (hashB h (xs s k a).data.toList) == I (hashB h (xs s k b).data.toList)) == ((a.toNat : Int) == (b.toNat : Int))) = true := by
  have e : (I (hashB h (xs s k a).data.toList) == I (hashB h (xs s k b).data.toList)) = ((a.toNat : Int) == (b.toNat : Int)) := by
    rw [Bool.eq_iff_iff, beq_iff_eq, beq_iff_eq, I_inj, xs_list s k hk, xs_list s k hk, hash_bytes]
    constructor
    · rintro rfl; rfl
    · intro e; exact UInt8.toNat_inj.mp (by omega)
  rw [e]; simp

set_option maxHeartbeats 4000000 in
set_option maxRecDepth 100000 in
theorem bytes_short (h : BitVec 64) (s : ByteArray) (a b : UInt8) (w : World) (hs : s.size ≤ 2000) :
    Calls Try.prog 5 #[.int .u64 (I h), .string s, .agg #[.int .u8 a.toNat, .int .u8 b.toNat]] w fun e w' => e = .returned (.bool true) ∧ Below w.heap.size w w' := by
  have c4b0 : decide (2000 < (s.size : Int)) = false := decide_eq_false (by omega)
  have c4b1 : decide (2000 < s.size) = false := decide_eq_false (by omega)
  have hs' : s.size ≤ 140737488351232 := by omega
  have kc := conv1 a
  have kd := conv1 b
  go_enter Try.func5, Try.ntmps5
  go_wp2
  go_loopw [7] (fun i wr => ∃ k : Nat, k ≤ s.size + 1 ∧ i = .int .i64 k ∧ Rel a b w wr) (fun i _ => s.size + 1 - (intOf i).toNat)
  case atStart => exact ⟨0, by omega, rfl, by simp, by simp, (Below.refl _ _).alloc (Nat.le_refl _) _, by simp⟩
  case round =>
    obtain ⟨k, hk, rfl, hr⟩ := hrel
    have HR := Lib.hid hr
    have hca := hr.ca
    have hcb := hr.cb
    by_cases hle : k ≤ s.size
    · have HX := Lib.hid (round_end h s k hle a b)
      have s1 : s.extract 0 k ++ { data := #[a] } ++ s.extract k s.size = xs s k a := rfl
      have s2 : s.extract 0 k ++ { data := #[b] } ++ s.extract k s.size = xs s k b := rfl
      have z1 : (xs s k a).size ≤ 140737488351232 := by rw [xs_size s k hle]; omega
      have z2 : (xs s k b).size ≤ 140737488351232 := by rw [xs_size s k hle]; omega
      clear hr
      by_cases h40 : 40 < k
      · by_cases h40' : (k : Int) < (s.size : Int) - 40
        · have e0 : decide (40 < (k : Int)) = true := decide_eq_true (by omega)
          go_wp2
          exact ⟨⟨k + 1, by omega, by go_num, HR.out⟩, by show s.size + 1 - ((k : Int) + 1).toNat < s.size + 1 - (k : Int).toNat; omega⟩
        · have e1 : decide ((k : Int) < (s.size : Int) - 40) = false := decide_eq_false h40'
          go_wp2
          go_region
          go_wp2
          have HR2 := Lib.hid (HR.out.grow (Obj.cells #[Value.int IntKind.u8 a.toNat] 5))
          have hca2 := HR2.out.ca
          have hcb2 := HR2.out.cb
          generalize (wr.alloc (Obj.cells #[Value.int IntKind.u8 a.toNat] 5)).drew = w2 at *
          clear hca hcb
          go_region
          go_wp2
          have HR3 := Lib.hid (HR2.out.grow (Obj.cells #[Value.int IntKind.u8 b.toNat] 5))
          have hca3 := HR3.out.ca
          have hcb3 := HR3.out.cb
          generalize (w2.alloc (Obj.cells #[Value.int IntKind.u8 b.toNat] 5)).drew = w3 at *
          clear hca2 hcb2 kc kd s1 s2
          go_quiet (first | (go_at_call_of 9 (Value.string (xs s k a)); exact qt (c_hash h _ z1 _)) | (go_at_call 9; exact qt (c_hash h _ z2 _)))
          go_wp2
          all_goals first
            | (exfalso; rename_i hbad; rw [HX.out] at hbad; cases hbad; done)
            | exact ⟨⟨k + 1, by omega, by go_num, HR3.out.drewN _⟩, by show s.size + 1 - ((k : Int) + 1).toNat < s.size + 1 - (k : Int).toNat; omega⟩
      · go_wp2
        go_region
        go_wp2
        have HR2 := Lib.hid (HR.out.grow (Obj.cells #[Value.int IntKind.u8 a.toNat] 5))
        have hca2 := HR2.out.ca
        have hcb2 := HR2.out.cb
        generalize (wr.alloc (Obj.cells #[Value.int IntKind.u8 a.toNat] 5)).drew = w2 at *
        clear hca hcb
        go_region
        go_wp2
        have HR3 := Lib.hid (HR2.out.grow (Obj.cells #[Value.int IntKind.u8 b.toNat] 5))
        have hca3 := HR3.out.ca
        have hcb3 := HR3.out.cb
        generalize (w2.alloc (Obj.cells #[Value.int IntKind.u8 b.toNat] 5)).drew = w3 at *
        clear hca2 hcb2 kc kd s1 s2
        go_quiet (first | (go_at_call_of 9 (Value.string (xs s k a)); exact qt (c_hash h _ z1 _)) | (go_at_call 9; exact qt (c_hash h _ z2 _)))
        go_wp2
        all_goals first
          | (exfalso; rename_i hbad; rw [HX.out] at hbad; cases hbad; done)
          | exact ⟨⟨k + 1, by omega, by go_num, HR3.out.drewN _⟩, by show s.size + 1 - ((k : Int) + 1).toNat < s.size + 1 - (k : Int).toNat; omega⟩
    · go_wp2_with (go_at_call 8; (with_reducible refine (c_awake _).mono ?_); rintro e w' ⟨rfl, ⟨nd, rfl⟩⟩)
      go_ret
      exact ⟨rfl, (HR.out.drewN _).below⟩
end Go.Proofs.Ytaodaonbkfgoeaa.MixF
