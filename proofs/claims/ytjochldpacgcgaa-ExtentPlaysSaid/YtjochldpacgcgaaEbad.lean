/- extent, and the document's file: what is refused, and what changes nothing. -/
import Derived.Test.YtjochldpacgcgaaEwrite
import Derived.Test.YtjochldpacgcgaaEcut
import Derived.Test.YtjochldpacgcgaaErefe
set_option linter.unusedVariables false
set_option linter.unusedSimpArgs false
namespace Go.Proofs.Ytjochldpacgcgaa.U
open Go.RowKit Go.Proofs Go.Lib Go.Proofs.YtjochldpacgcgaaW.PrintWords

/-- Write's answer where nothing is written. -/
def WBad (p : Int) (n : Nat) (code : Int) : Prop := (p < 0 ∧ code = 2) ∨ (0 ≤ p ∧ n = 0 ∧ code = 0) ∨ (0 ≤ p ∧ 0 < n ∧ 65536 < p ∧ code = 3) ∨ (0 ≤ p ∧ 0 < n ∧ p ≤ 65536 ∧ 65536 - p < (n : Int) ∧ code = 3)
theorem WBad.or (p : Int) (n : Nat) : (∃ code, WBad p n code) ∨ (0 ≤ p ∧ 0 < n ∧ p + n ≤ 65536) := by
  unfold WBad
  by_cases h1 : p < 0
  · exact .inl ⟨2, .inl ⟨h1, rfl⟩⟩
  · by_cases h2 : n = 0
    · exact .inl ⟨0, .inr (.inl ⟨by omega, h2, rfl⟩)⟩
    · by_cases h3 : 65536 < p
      · exact .inl ⟨3, .inr (.inr (.inl ⟨by omega, by omega, h3, rfl⟩))⟩
      · by_cases h4 : 65536 - p < (n : Int)
        · exact .inl ⟨3, .inr (.inr (.inr ⟨by omega, by omega, by omega, h4, rfl⟩))⟩
        · exact .inr (by omega)
def CBad (n : Int) (code : Int) : Prop := (n < 0 ∧ code = 2) ∨ (65536 < n ∧ code = 3)
theorem CBad.or (n : Int) : (∃ code, CBad n code) ∨ (0 ≤ n ∧ n ≤ 65536) := by
  unfold CBad
  by_cases h1 : n < 0
  · exact .inl ⟨2, .inl ⟨h1, rfl⟩⟩
  · by_cases h2 : 65536 < n
    · exact .inl ⟨3, .inr ⟨h2, rfl⟩⟩
    · exact .inr (by omega)
def RBad (size : Nat) (p n code : Int) : Prop := ((p < 0 ∨ n < 0) ∧ code = 2) ∨ (0 ≤ p ∧ n = 0 ∧ code = 0) ∨ (0 < n ∧ (size : Int) ≤ p ∧ code = 22)
theorem RBad.or (size : Nat) (p n : Int) : (∃ code, RBad size p n code) ∨ (0 ≤ p ∧ 0 < n ∧ p < size) := by
  unfold RBad
  by_cases h1 : p < 0 ∨ n < 0
  · exact .inl ⟨2, .inl ⟨h1, rfl⟩⟩
  · by_cases h2 : n = 0
    · exact .inl ⟨0, .inr (.inl ⟨by omega, h2, rfl⟩)⟩
    · by_cases h3 : (size : Int) ≤ p
      · exact .inl ⟨22, .inr (.inr ⟨by omega, h3, rfl⟩)⟩
      · exact .inr (by omega)
set_option maxHeartbeats 4000000 in
theorem Write_bad (D : Nat) (p : Int) (A : Option Addr) (n c : Nat) (code : Int) (w : World) (hon : w.cell? ⟨D, 0, none⟩ = some (.bool true)) (h : WBad p n code) :
    Calls Try.prog 16 #[.pointer (some ⟨D, 0, none⟩), .int .i64 p, .slice A n c] w fun e w' => e = .returned (.int .i64 code) ∧ w' = w := by
  have C1 := Lib.hid (off_on D w hon)
  rcases h with ⟨h1, rfl⟩ | ⟨h1, rfl, rfl⟩ | ⟨h1, h2, h3, rfl⟩ | ⟨h1, h2, h3, h4, rfl⟩
  · have d1 : decide (p < 0) = true := by simpa using h1
    go_enter Try.func16, Try.ntmps16
    go_wp2_with fail
    refine (C1.out).mono ?_
    rintro e w1 ⟨rfl, rfl⟩
    go_wp2_with fail
    go_ret
    exact ⟨rfl, rfl⟩
  · have d1 : decide (p < 0) = false := by simp; omega
    go_enter Try.func16, Try.ntmps16
    go_wp2_with fail
    refine (C1.out).mono ?_
    rintro e w1 ⟨rfl, rfl⟩
    go_wp2_with fail
    go_ret
    exact ⟨rfl, rfl⟩
  · have d1 : decide (p < 0) = false := by simp; omega
    have d2 : ((n : Int) == 0) = false := by simp; omega
    have d3 : decide ((65536 : Int) < p) = true := by simp; omega
    go_enter Try.func16, Try.ntmps16
    go_wp2_with fail
    refine (C1.out).mono ?_
    rintro e w1 ⟨rfl, rfl⟩
    go_wp2_with fail
    go_ret
    exact ⟨rfl, rfl⟩
  · have d1 : decide (p < 0) = false := by simp; omega
    have d2 : ((n : Int) == 0) = false := by simp; omega
    have d3 : decide ((65536 : Int) < p) = false := by simp; omega
    have d4 : decide ((65536 : Int) - p < (n : Int)) = true := by simp; omega
    go_enter Try.func16, Try.ntmps16
    go_wp2_with fail
    refine (C1.out).mono ?_
    rintro e w1 ⟨rfl, rfl⟩
    go_wp2_with fail
    go_ret
    exact ⟨rfl, rfl⟩
set_option maxHeartbeats 4000000 in
theorem Cut_bad (D : Nat) (n code : Int) (w : World) (hon : w.cell? ⟨D, 0, none⟩ = some (.bool true)) (h : CBad n code) :
    Calls Try.prog 19 #[.pointer (some ⟨D, 0, none⟩), .int .i64 n] w fun e w' => e = .returned (.int .i64 code) ∧ w' = w := by
  have C1 := Lib.hid (off_on D w hon)
  rcases h with ⟨h1, rfl⟩ | ⟨h1, rfl⟩
  · have d1 : decide (n < 0) = true := by simpa using h1
    go_enter Try.func19, Try.ntmps19
    go_wp2_with fail
    refine (C1.out).mono ?_
    rintro e w1 ⟨rfl, rfl⟩
    go_wp2_with fail
    go_ret
    exact ⟨rfl, rfl⟩
  · have d1 : decide (n < 0) = false := by simp; omega
    have d2 : decide ((65536 : Int) < n) = true := by simpa using h1
    go_enter Try.func19, Try.ntmps19
    go_wp2_with fail
    refine (C1.out).mono ?_
    rintro e w1 ⟨rfl, rfl⟩
    go_wp2_with fail
    go_ret
    exact ⟨rfl, rfl⟩
set_option maxHeartbeats 4000000 in
theorem Read_bad (D size : Nat) (p n code : Int) (w : World) (hon : w.cell? ⟨D, 0, none⟩ = some (.bool true)) (hsz : w.cell? ⟨D, 1, none⟩ = some (.int .i64 (size : Int))) (h : RBad size p n code) :
    Calls Try.prog 13 #[.pointer (some ⟨D, 0, none⟩), .int .i64 p, .int .i64 n] w fun e w' => e = .returned (.tuple #[.slice none 0 0, .int .i64 code]) ∧ w' = w := by
  have C1 := Lib.hid (off_on D w hon)
  have key : ∀ code : Int, ((p < 0) ∧ code = 2) ∨ (0 ≤ p ∧ n < 0 ∧ code = 2) ∨ (0 ≤ p ∧ n = 0 ∧ code = 0) ∨ (0 ≤ p ∧ 0 < n ∧ (size : Int) ≤ p ∧ code = 22) → Calls Try.prog 13 #[.pointer (some ⟨D, 0, none⟩), .int .i64 p, .int .i64 n] w fun e w' => e = .returned (.tuple #[.slice none 0 0, .int .i64 code]) ∧ w' = w := by
    rintro code (⟨h1, rfl⟩ | ⟨h1, h2, rfl⟩ | ⟨h1, rfl, rfl⟩ | ⟨h1, h2, h3, rfl⟩)
    · have d1 : decide (p < 0) = true := by simpa using h1
      go_enter Try.func13, Try.ntmps13
      go_wp2_with fail
      refine (C1.out).mono ?_
      rintro e w1 ⟨rfl, rfl⟩
      go_wp2_with fail
      go_ret2
      exact ⟨rfl, rfl⟩
    · have d1 : decide (p < 0) = false := by simp; omega
      have d2 : decide (n < 0) = true := by simpa using h2
      go_enter Try.func13, Try.ntmps13
      go_wp2_with fail
      refine (C1.out).mono ?_
      rintro e w1 ⟨rfl, rfl⟩
      go_wp2_with fail
      go_ret2
      exact ⟨rfl, rfl⟩
    · have d1 : decide (p < 0) = false := by simp; omega
      go_enter Try.func13, Try.ntmps13
      go_wp2_with fail
      refine (C1.out).mono ?_
      rintro e w1 ⟨rfl, rfl⟩
      go_wp2_with fail
      go_ret2
      exact ⟨rfl, rfl⟩
    · have d1 : decide (p < 0) = false := by simp; omega
      have d2 : decide (n < 0) = false := by simp; omega
      have d3 : (n == 0) = false := by simp; omega
      have d4 : decide ((size : Int) ≤ p) = true := by simpa using h3
      go_enter Try.func13, Try.ntmps13
      go_wp2_with fail
      refine (C1.out).mono ?_
      rintro e w1 ⟨rfl, rfl⟩
      go_wp2_with fail
      go_ret2
      exact ⟨rfl, rfl⟩
  apply key
  unfold RBad at h
  omega
/-! ### The document's -/
set_option maxHeartbeats 4000000 in
theorem Rwrite_bad (R : Nat) (p : Int) (A : Option Addr) (n c : Nat) (code : Int) (w : World) (hn : n ≤ 4611686018427387904) (h : WBad p n code) :
    Calls Try.prog 33 #[.pointer (some ⟨R, 0, none⟩), .int .i64 p, .slice A n c] w fun e w' => e = .returned (.int .i64 code) ∧ w' = w := by
  rcases h with ⟨h1, rfl⟩ | ⟨h1, rfl, rfl⟩ | ⟨h1, h2, h3, rfl⟩ | ⟨h1, h2, h3, h4, rfl⟩
  · have d1 : decide (p < 0) = true := by simpa using h1
    go_enter Try.func33, Try.ntmps33
    go_wp2_with fail
    go_ret
    exact ⟨rfl, rfl⟩
  · have d1 : decide (p < 0) = false := by simp; omega
    go_enter Try.func33, Try.ntmps33
    go_wp2_with fail
    go_ret
    exact ⟨rfl, rfl⟩
  · have d1 : decide (p < 0) = false := by simp; omega
    have d2 : ((n : Int) == 0) = false := by simp; omega
    have d3 : decide ((65536 : Int) < p) = true := by simp; omega
    go_enter Try.func33, Try.ntmps33
    go_wp2_with fail
    go_ret
    exact ⟨rfl, rfl⟩
  · have d1 : decide (p < 0) = false := by simp; omega
    have d2 : ((n : Int) == 0) = false := by simp; omega
    have d3 : decide ((65536 : Int) < p) = false := by simp; omega
    have d4 : decide ((65536 : Int) < p + (n : Int)) = true := by simp; omega
    go_enter Try.func33, Try.ntmps33
    go_wp2_with fail
    go_ret
    exact ⟨rfl, rfl⟩
set_option maxHeartbeats 4000000 in
theorem Rcut_bad (R : Nat) (n code : Int) (w : World) (h : CBad n code) :
    Calls Try.prog 34 #[.pointer (some ⟨R, 0, none⟩), .int .i64 n] w fun e w' => e = .returned (.int .i64 code) ∧ w' = w := by
  rcases h with ⟨h1, rfl⟩ | ⟨h1, rfl⟩
  · have d1 : decide (n < 0) = true := by simpa using h1
    go_enter Try.func34, Try.ntmps34
    go_wp2_with fail
    go_ret
    exact ⟨rfl, rfl⟩
  · have d1 : decide (n < 0) = false := by simp; omega
    have d2 : decide ((65536 : Int) < n) = true := by simpa using h1
    go_enter Try.func34, Try.ntmps34
    go_wp2_with fail
    go_ret
    exact ⟨rfl, rfl⟩
set_option maxHeartbeats 4000000 in
theorem Rread_bad (R size c : Nat) (p n code : Int) (A : Option Addr) (w : World) (hB : w.cell? ⟨R, 0, none⟩ = some (.slice A size c)) (h : RBad size p n code) :
    Calls Try.prog 14 #[.pointer (some ⟨R, 0, none⟩), .int .i64 p, .int .i64 n] w fun e w' => e = .returned (.tuple #[.slice none 0 0, .int .i64 code]) ∧ w' = w := by
  have key : ∀ code : Int, ((p < 0) ∧ code = 2) ∨ (0 ≤ p ∧ n < 0 ∧ code = 2) ∨ (0 ≤ p ∧ n = 0 ∧ code = 0) ∨ (0 ≤ p ∧ 0 < n ∧ (size : Int) ≤ p ∧ code = 22) → Calls Try.prog 14 #[.pointer (some ⟨R, 0, none⟩), .int .i64 p, .int .i64 n] w fun e w' => e = .returned (.tuple #[.slice none 0 0, .int .i64 code]) ∧ w' = w := by
    rintro code (⟨h1, rfl⟩ | ⟨h1, h2, rfl⟩ | ⟨h1, rfl, rfl⟩ | ⟨h1, h2, h3, rfl⟩)
    · have d1 : decide (p < 0) = true := by simpa using h1
      go_enter Try.func14, Try.ntmps14
      go_wp2_with fail
      go_ret2
      exact ⟨rfl, rfl⟩
    · have d1 : decide (p < 0) = false := by simp; omega
      have d2 : decide (n < 0) = true := by simpa using h2
      go_enter Try.func14, Try.ntmps14
      go_wp2_with fail
      go_ret2
      exact ⟨rfl, rfl⟩
    · have d1 : decide (p < 0) = false := by simp; omega
      go_enter Try.func14, Try.ntmps14
      go_wp2_with fail
      go_ret2
      exact ⟨rfl, rfl⟩
    · have d1 : decide (p < 0) = false := by simp; omega
      have d2 : decide (n < 0) = false := by simp; omega
      have d3 : (n == 0) = false := by simp; omega
      have d4 : decide ((size : Int) ≤ p) = true := by simpa using h3
      go_enter Try.func14, Try.ntmps14
      go_wp2_with fail
      go_ret2
      exact ⟨rfl, rfl⟩
  apply key
  unfold RBad at h
  omega
end Go.Proofs.Ytjochldpacgcgaa.U
