/- utf.fold and utf.Fold: a letter, a text, folded; for texts of at most 2^45 bytes. -/
import Derived.Test.YtanncmaojnmldaaDoorUbuild
import Derived.Test.YtanncmaojnmldaaDoorUunits
set_option linter.unusedVariables false
set_option linter.unusedSimpArgs false
namespace Go.Proofs.YtanncmaojnmldaaDoor.U
open Go.RowKit Go.Proofs

theorem foldR_calls (n : Nat) (w : World) (hn : n ≤ 1114600) :
    Calls Tryd.prog 33 #[.int .i32 n] w fun e w' => e = .returned (.int .i32 (foldN n : Nat)) ∧ w = w' := by
  by_cases h1 : 65 ≤ n
  · have d1 : decide ((65 : Int) ≤ (n : Int)) = true := by simp; omega
    by_cases h2 : n ≤ 90
    · have d2 : decide ((n : Int) ≤ (90 : Int)) = true := by simp; omega
      have hf : foldN n = n + 32 := by unfold foldN; rw [if_pos ⟨h1, h2⟩]
      rw [hf]
      clear hf
      go_enter Tryd.func33, Tryd.ntmps33
      go_wp2
      go_ret
      refine ⟨?_, rfl⟩
      simp
      omega
    · have d2 : decide ((n : Int) ≤ (90 : Int)) = false := by simp; omega
      have hf : foldN n = n := by unfold foldN; rw [if_neg (by omega)]
      rw [hf]
      clear hf
      go_enter Tryd.func33, Tryd.ntmps33
      go_wp2
      go_ret
      exact ⟨rfl, rfl⟩
  · have d1 : decide ((65 : Int) ≤ (n : Int)) = false := by simp; omega
    have hf : foldN n = n := by unfold foldN; rw [if_neg (by omega)]
    rw [hf]
    clear hf
    go_enter Tryd.func33, Tryd.ntmps33
    go_wp2
    go_ret
    exact ⟨rfl, rfl⟩

theorem take_fold (l : List UInt8) (k : Nat) (h : k < l.length) : (fold l).take (k + 1) = (fold l).take k ++ [foldB l[k]] := by
  rw [List.take_succ_eq_append_getElem (by rw [fold_length]; exact h)]
  simp [fold]

set_option maxHeartbeats 4000000 in
set_option maxRecDepth 1000000 in
theorem Fold_calls (s : ByteArray) (w : World) (hs : s.size ≤ 35184372088832) :
    Calls Tryd.prog 18 #[.string s] w fun e w' => e = .returned (.string ⟨(fold s.data.toList).toArray⟩) ∧ Below w.heap.size w w' := by
  go_enter Tryd.func18, Tryd.ntmps18
  go_wp2
  go_loopw [7] (fun i wr => ∃ k : Nat, k ≤ s.size ∧ i = .int .i64 k ∧ Lib.IsBuilderF 55 5 w.heap.size w.heap.size (Lib.byteCells ((fold s.data.toList).take k)) wr ∧ Below w.heap.size w wr) (fun i _ => s.size - (RowKit.intOf i).toNat)
  case atStart =>
    exact ⟨0, Nat.zero_le _, rfl, Lib.IsBuilderF.of (Lib.fresh_isBuilder 55 5 w), (Below.refl _ w).alloc (Nat.le_refl _) _⟩
  case round =>
    obtain ⟨k, hk, rfl, hI, hb⟩ := hrel
    have hz := hb.size
    by_cases hlt : k < s.size
    · have d0 : decide ((k : Int) < (s.size : Int)) = true := by simp; omega
      have hl : k < s.data.toList.length := by rw [← Lib.size_eq]; exact hlt
      have hts := take_fold s.data.toList k hl
      rw [show s.data.toList[k] = s[k] from rfl] at hts
      have hlen : (Lib.byteCells ((fold s.data.toList).take k)).length + 1 ≤ 140737488355328 := by
        rw [Lib.byteCells_length, List.length_take, fold_length]; omega
      have h256 := s[k].toNat_lt
      have HT := Lib.hid hts
      have HI := Lib.hid hI
      have HL := Lib.hid hlen
      have hf := foldB_nat s[k]
      have hf2 := (foldB s[k]).toNat_lt
      rw [hf] at hf2
      have HF := Lib.hid hf
      clear hts hI hlen hf
      go_wp2_with (go_at_call 33; with_reducible refine (foldR_calls _ _ (by omega)).mono ?_)
      rintro e w' ⟨rfl, rfl⟩
      go_wp2_with (go_at_call 32; with_reducible refine (WriteByte_k w.heap.size w.heap.size _ (foldN s[k].toNat : Nat) _ HI.out HL.out hz).mono ?_)
      rintro e W1 ⟨rfl, h1, b1, k1⟩
      have h1' : Lib.IsBuilderF 55 5 w.heap.size w.heap.size (Lib.byteCells ((fold s.data.toList).take (k + 1))) W1 := by
        rw [HT.out, Lib.byteCells_append]
        have e : Lib.byteCells [foldB s[k]] = [.int .u8 (foldN s[k].toNat : Nat)] := by
          unfold Lib.byteCells
          rw [List.map_cons, HF.out]
          rfl
        rw [e]
        exact Or.inr h1
      have H1 := Lib.hid h1'
      clear h1' h1
      go_wp2
      go_roundw
      case rel => exact ⟨k + 1, by omega, by go_num, H1.out, hb.trans b1⟩
      case measure => simp [RowKit.intOf]; omega
    · have d0 : decide ((k : Int) < (s.size : Int)) = false := by simp; omega
      have hk' : k = s.size := by omega
      subst hk'
      rw [List.take_of_length_le (by rw [fold_length, ← Lib.size_eq]; exact Nat.le_refl _)] at hI
      have HI := Lib.hid hI
      clear hI
      go_wp2_with (go_at_call 34; with_reducible refine (Tryd.Builder_String_any_k w.heap.size w.heap.size _ _ HI.out hz).mono ?_)
      rintro e W1 ⟨rfl, _, b1, _⟩
      go_wp2
      go_ret
      exact ⟨rfl, hb.trans b1⟩
end Go.Proofs.YtanncmaojnmldaaDoor.U
