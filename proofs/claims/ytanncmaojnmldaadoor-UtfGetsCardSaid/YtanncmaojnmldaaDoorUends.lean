/- ends.Get of two bytes at a place within: their number; at the last byte alone: an error. -/
import Derived.Test.YtanncmaojnmldaaDoorProg
import Derived.Test.YtanncmaojnmldaaDoorWWords
import Derived.WalkKit
import Derived.Lib.Hide
import Derived.Laws.BitsAllLaws
import Derived.WalkSpells
set_option linter.unusedVariables false
namespace Go.Proofs.YtanncmaojnmldaaDoor.U
open Go.RowKit Go.Proofs Go.Lib Go.Proofs.YtanncmaojnmldaaDoorW.PrintWords

set_option maxHeartbeats 1000000 in
set_option maxRecDepth 1000000 in
theorem cut_yes (g off n c : Nat) (at' : Nat) (w : World) (hat : at' + 2 ≤ n) (hn : n ≤ c) (hc : c ≤ 9223372036854775807) :
    Calls Tryd.prog 39 #[.slice (some ⟨g, off, none⟩) n c, .int .i64 at', .int .i64 2] w fun e w' => e = .returned (.tuple #[.slice (some ⟨g, off + at', none⟩) 2 2, .int .i64 0]) ∧ w = w' := by
  go_enter Tryd.func39, Tryd.ntmps39
  go_wp2
  go_ret2
  refine ⟨?_, rfl⟩
  rw [show at' + 2 - at' = 2 from by omega]
  rfl

set_option maxHeartbeats 1000000 in
set_option maxRecDepth 1000000 in
theorem cut_no (A : Option Addr) (n c : Nat) (at' : Nat) (w : World) (hat : at' + 1 = n) (hc : n ≤ 140737488355328) :
    Calls Tryd.prog 39 #[.slice A n c, .int .i64 at', .int .i64 2] w fun e w' => e = .returned (.tuple #[.slice none 0 0, .int .i64 4]) ∧ w = w' := by
  have h1 : decide ((n : Int) - (at' : Int) < 2) = true := by simp; omega
  go_enter Tryd.func39, Tryd.ntmps39
  go_wp2
  go_ret2
  exact ⟨rfl, rfl⟩

/-- The number of two bytes. -/
theorem or_bytes (x y : Int) (hx : 0 ≤ x ∧ x ≤ 255) (hy : 0 ≤ y ∧ y ≤ 255) : bits .or .u64 x (y * 256) = x + 256 * y := by
  obtain ⟨a, rfl⟩ := Int.eq_ofNat_of_zero_le hx.1
  obtain ⟨b, rfl⟩ := Int.eq_ofNat_of_zero_le hy.1
  have e : ((b : Int) * 256) = ((b * 256 : Nat) : Int) := by omega
  rw [e, u64_or_nat a (b * 256) (by omega) (by omega)]
  have : a ||| b * 256 = a + 256 * b := by
    rw [Nat.or_comm, Nat.mul_comm b 256]
    exact (Nat.two_pow_add_eq_or_of_lt (i := 8) (by omega) b).symm.trans (by omega)
  rw [this]
  omega
theorem or_zero (x : Int) (hx : 0 ≤ x ∧ x ≤ 255) : bits .or .u64 0 x = x := by
  have := or_bytes 0 0 (by omega) (by omega)
  obtain ⟨a, rfl⟩ := Int.eq_ofNat_of_zero_le hx.1
  have e := u64_or_nat 0 a (by omega) (by omega)
  rw [Nat.zero_or] at e
  exact e

set_option maxHeartbeats 4000000 in
set_option maxRecDepth 1000000 in
theorem ends_yes (g off n c : Nat) (at' : Nat) (x y : Int) (w : World) (hat : at' + 2 ≤ n) (hn : n ≤ c) (hc : c ≤ 9223372036854775807)
    (hx : 0 ≤ x ∧ x ≤ 255) (hy : 0 ≤ y ∧ y ≤ 255) (h0 : w.cell? ⟨g, off + at', none⟩ = some (.int .u8 x)) (h1 : w.cell? ⟨g, off + at' + 1, none⟩ = some (.int .u8 y)) :
    Calls Tryd.prog 28 #[.slice (some ⟨g, off, none⟩) n c, .int .i64 at', .int .i64 2] w fun e w' => e = .returned (.tuple #[.int .u64 (x + 256 * y), .int .i64 0]) ∧ w = w' := by
  have O1 := or_bytes x y hx hy
  have O0 := or_zero x hx
  go_enter Tryd.func28, Tryd.ntmps28
  go_wp2_with (first | (go_at_call 39; refine (cut_yes g off n c at' _ hat hn hc).mono ?_; rintro e w' ⟨rfl, rfl⟩) | go_in)
  go_loop [10, 28] (fun n i => (n = .int .u64 0 ∧ i = .int .i64 0) ∨ (n = .int .u64 x ∧ i = .int .i64 1) ∨ (n = .int .u64 (x + 256 * y) ∧ i = .int .i64 2)) (fun _ i => 2 - (intOf i).toNat)
  case atStart => exact .inl ⟨rfl, rfl⟩
  case round =>
    rcases hrel with ⟨rfl, rfl⟩ | ⟨rfl, rfl⟩ | ⟨rfl, rfl⟩
    · go_wp2
      go_round
      case rel => exact .inr (.inl ⟨by simp, rfl⟩)
      case measure => simp [intOf]
    · go_wp2
      go_round
      case rel => exact .inr (.inr ⟨by simp, rfl⟩)
      case measure => simp [intOf]
    · go_wp2
      go_ret2
      exact ⟨rfl, rfl⟩

set_option maxHeartbeats 1000000 in
set_option maxRecDepth 1000000 in
theorem ends_no (A : Option Addr) (n c : Nat) (at' : Nat) (w : World) (hat : at' + 1 = n) (hc : n ≤ 140737488355328) :
    Calls Tryd.prog 28 #[.slice A n c, .int .i64 at', .int .i64 2] w fun e w' => e = .returned (.tuple #[.int .u64 0, .int .i64 4]) ∧ w = w' := by
  go_enter Tryd.func28, Tryd.ntmps28
  go_wp2_with (first | (go_at_call 39; refine (cut_no A n c at' _ hat hc).mono ?_; rintro e w' ⟨rfl, rfl⟩) | go_in)
  go_ret2
  exact ⟨rfl, rfl⟩
end Go.Proofs.YtanncmaojnmldaaDoor.U
