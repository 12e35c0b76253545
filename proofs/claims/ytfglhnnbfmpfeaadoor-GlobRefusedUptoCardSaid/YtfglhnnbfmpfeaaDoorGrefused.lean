/- What is refused: the table of answers; the reference's Is. -/
import Derived.Test.YtfglhnnbfmpfeaaDoorGlaw
import Derived.Test.YtfglhnnbfmpfeaaDoorGshort
import Derived.Test.YtfglhnnbfmpfeaaDoorPRx51
set_option linter.unusedVariables false
set_option linter.unusedSimpArgs false
namespace Go.Proofs.YtfglhnnbfmpfeaaDoor.U
open Go.RowKit Go.Proofs Go.Lib Go.Proofs.YtfglhnnbfmpfeaaDoorW.PrintWords Go.Proofs.YtfglhnnbfmpfeaaDoor.PR

theorem Is_calls (s : ByteArray) (W : World) (hs : s.size ≤ 17592186044415) :
    Calls Tryd.prog 21 #[.string s] W fun e w' => e = .returned (.bool (valid s.data.toList)) ∧ Below W.heap.size W w' := by
  have h : refectoryref02_Is.f (s.size + 9) s = some (valid s.data.toList) := by
    unfold refectoryref02_Is.f
    rw [Letters_eq s hs _ (Nat.le_refl _)]
    rfl
  exact (refectoryref02_Is.calls _ s _ W h).mono fun e w' ⟨he, hb⟩ => ⟨he, by first | exact hb | exact hb.below⟩
theorem refused_table (p s : List UInt8) :
    (valid p = false ∧ askE p s = 5 ∧ askE p [] = 5 ∧ fitB p s = false ∧ shortB p 64 = false) ∨
    (valid p = true ∧ valid s = false ∧ askE p s = 5 ∧ fitB p s = false ∧ askE p [] = 0 ∧ shortB p 64 = true ∧ shortB s 256 = false) ∨
    (valid p = true ∧ valid s = false ∧ askE p s = 5 ∧ fitB p s = false ∧ askE p [] = 3 ∧ shortB p 64 = false) ∨
    (valid p = true ∧ valid s = true ∧ askE p s = 0 ∧ askE p [] = 0 ∧ shortB p 64 = true ∧ shortB s 256 = true) ∨
    (valid p = true ∧ valid s = true ∧ askE p s = 3 ∧ fitB p s = false ∧ askE p [] = 0 ∧ shortB p 64 = true ∧ shortB s 256 = false) ∨
    (valid p = true ∧ valid s = true ∧ askE p s = 3 ∧ fitB p s = false ∧ askE p [] = 3 ∧ shortB p 64 = false) := by
  have hn : valid [] = true ∧ (fnums []).length = 0 := by decide +kernel
  unfold fitB shortB askE
  rw [hn.1, hn.2]
  generalize (fnums p).length = lp
  generalize (fnums s).length = ls
  generalize mt (fnums p) (fnums s) = M
  cases valid p <;> cases valid s
  · simp
  · simp
  · simp
    omega
  · simp
    by_cases h1 : 64 < lp <;> by_cases h2 : 256 < ls <;> simp [h1, h2] <;> omega
end Go.Proofs.YtfglhnnbfmpfeaaDoor.U
