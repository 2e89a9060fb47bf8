/- Parts: a text cut at a byte by going through it (plain). -/
import Derived.Outline
import Derived.Test.YtdibkhddhgaghaaDoorTextPure
import Derived.KernelRfl
namespace Go.Proofs.YtdibkhddhgaghaaDoor.Pt
open Go
set_option linter.unusedVariables false
def parts (b : UInt8) (s : ByteArray) : List ByteArray := (Tx.sp b s.data.toList).map fun l => ⟨l.toArray⟩
theorem parts_data (b : UInt8) (s : ByteArray) : (parts b s).map (·.data.toList) = Tx.sp b s.data.toList := by
  unfold parts
  rw [List.map_map]
  conv => rhs; rw [← List.map_id (Tx.sp b s.data.toList)]
  exact List.map_congr_left fun l _ => by simp
/-- What stands behind i bytes: the parts so far, and where the next one begins. -/
def pt (b : UInt8) (s : ByteArray) : Nat → List ByteArray × Nat
  | 0 => ([], 0)
  | i + 1 => if i = s.size ∨ s.data.toList[i]? = some b then ((pt b s i).1 ++ [s.extract (pt b s i).2 i], i + 1) else pt b s i
theorem pt_from (b : UInt8) (s : ByteArray) : ∀ i, (pt b s i).2 ≤ i
  | 0 => Nat.le_refl _
  | i + 1 => by
    unfold pt
    split
    · exact Nat.le_refl _
    · exact Nat.le_trans (pt_from b s i) (Nat.le_succ _)
theorem pt_len (b : UInt8) (s : ByteArray) : ∀ i, (pt b s i).1.length ≤ i
  | 0 => Nat.le_refl _
  | i + 1 => by
    have := pt_len b s i
    unfold pt
    split
    · rw [List.length_append, List.length_singleton]; omega
    · omega
theorem pt_clean (b : UInt8) (s : ByteArray) : ∀ i, ∀ j, (pt b s i).2 ≤ j → j < i → s.data.toList[j]? ≠ some b
  | 0, j, _, h => by omega
  | i + 1, j, h1, h2 => by
    unfold pt at h1
    split at h1
    · dsimp only at h1; omega
    · rename_i hn
      by_cases hj : j = i
      · subst hj; exact fun h => hn (Or.inr h)
      · exact pt_clean b s i j h1 (by omega)
theorem size_list (s : ByteArray) : s.data.toList.length = s.size := by simp
theorem ext_list (s : ByteArray) (a k : Nat) (hk : k ≤ s.size) : (s.extract a k).data.toList = (s.data.toList.drop a).take (k - a) := by
  simp [ByteArray.data_extract, List.extract_eq_take_drop]
theorem pt_sp (b : UInt8) (s : ByteArray) : ∀ i, i ≤ s.size → Tx.sp b s.data.toList = (pt b s i).1.map (·.data.toList) ++ Tx.sp b (s.data.toList.drop (pt b s i).2)
  | 0, _ => by simp [pt]
  | i + 1, h => by
    have ih := pt_sp b s i (by omega)
    have hf := pt_from b s i
    have hcl := pt_clean b s i
    unfold pt
    by_cases hb : s.data.toList[i]? = some b
    · rw [if_pos (Or.inr hb), ih]
      generalize (pt b s i).2 = f at hf hcl
      have hL := size_list s
      have hsplit : s.data.toList.drop f = (s.data.toList.drop f).take (i - f) ++ b :: s.data.toList.drop (i + 1) := by
        conv => lhs; rw [← List.take_append_drop (i - f) (s.data.toList.drop f)]
        congr 1
        rw [List.drop_drop, show f + (i - f) = i by omega]
        obtain ⟨hi, he⟩ := List.getElem?_eq_some_iff.1 hb
        rw [List.drop_eq_getElem_cons hi, he]
      have hno : b ∉ (s.data.toList.drop f).take (i - f) := by
        intro hm
        obtain ⟨j, hj⟩ := List.mem_iff_getElem?.1 hm
        have hjl : j < i - f := by
          have := (List.getElem?_eq_some_iff.1 hj).1
          simp at this; omega
        rw [List.getElem?_take_of_lt hjl, List.getElem?_drop] at hj
        exact hcl (f + j) (by omega) (by omega) hj
      rw [List.map_append, List.append_assoc]
      congr 1
      dsimp only
      conv => lhs; rw [hsplit]
      rw [Tx.sp_hit hno, List.map_singleton, ext_list s f i (by omega)]
      rfl
    · rw [if_neg (by rintro (h1 | h1); · omega
                     · exact hb h1)]
      exact ih
theorem pt_end (b : UInt8) (s : ByteArray) : (pt b s (s.size + 1)).1 = parts b s := by
  have h := pt_sp b s s.size (Nat.le_refl _)
  have hf := pt_from b s s.size
  have hcl := pt_clean b s s.size
  unfold parts
  rw [h]
  conv => lhs; unfold pt
  rw [if_pos (Or.inl rfl)]
  generalize (pt b s s.size).2 = f at hf hcl
  dsimp only
  have hno : b ∉ s.data.toList.drop f := by
    intro hm
    obtain ⟨j, hj⟩ := List.mem_iff_getElem?.1 hm
    have hjl := (List.getElem?_eq_some_iff.1 hj).1
    rw [List.getElem?_drop] at hj
    have := size_list s
    rw [List.length_drop] at hjl
    exact hcl (f + j) (by omega) (by omega) hj
  rw [Tx.sp_miss hno, List.map_append, List.map_map]
  have e1 : ∀ l : List ByteArray, l.map ((fun l : List UInt8 => (⟨l.toArray⟩ : ByteArray)) ∘ fun x => x.data.toList) = l := fun l => by
    conv => rhs; rw [← List.map_id l]
    exact List.map_congr_left fun x _ => by simp
  rw [e1]
  congr 1
  simp only [List.map_cons, List.map_nil, List.cons.injEq, and_true]
  have := ext_list s f s.size (Nat.le_refl _)
  have h2 : ∀ x : ByteArray, x = ⟨x.data.toList.toArray⟩ := fun x => by cases x; simp
  rw [h2 (s.extract f s.size), this, List.take_of_length_le (by rw [List.length_drop, size_list]; exact Nat.le_refl _)]
end Go.Proofs.YtdibkhddhgaghaaDoor.Pt
