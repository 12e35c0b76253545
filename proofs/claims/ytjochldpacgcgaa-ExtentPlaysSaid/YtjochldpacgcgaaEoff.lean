/- extent: of no file, and of a zero one, all is refused. -/
import Derived.Test.YtjochldpacgcgaaProg
import Derived.Test.YtjochldpacgcgaaWWords
import Derived.WalkKit
import Derived.Lib.Hide
import Derived.Deep.QuietTactic
import Derived.BigQuiet
set_option linter.unusedVariables false
set_option linter.unusedSimpArgs false
namespace Go.Proofs.Ytjochldpacgcgaa.U
open Go.RowKit Go.Proofs Go.Lib Go.Proofs.YtjochldpacgcgaaW.PrintWords

/-- No file, or a zero one. -/
def Off (w : World) (v : Value) : Prop := v = .pointer none ∨ ∃ D, v = .pointer (some ⟨D, 0, none⟩) ∧ w.cell? ⟨D, 0, none⟩ = some (.bool false)
theorem Off.below {w w' : World} {v : Value} (h : Off w v) (hD : ∀ D, v = .pointer (some ⟨D, 0, none⟩) → D < w.heap.size) (hb : Below w.heap.size w w') : Off w' v := by
  rcases h with rfl | ⟨D, rfl, hc⟩
  · exact .inl rfl
  · exact .inr ⟨D, rfl, (hb.cell (p := ⟨D, 0, none⟩) (hD D rfl)).trans hc⟩
set_option maxHeartbeats 1000000 in
theorem off_off (v : Value) (w : World) (h : Off w v) :
    Calls Try.prog 28 #[v] w fun e w' => e = .returned (.bool true) ∧ w' = w := by
  rcases h with rfl | ⟨D, rfl, hc⟩
  · go_enter Try.func28, Try.ntmps28
    go_wp2
    go_ret
    exact ⟨rfl, rfl⟩
  · go_enter Try.func28, Try.ntmps28
    go_wp2
    go_ret
    exact ⟨rfl, rfl⟩
set_option maxHeartbeats 1000000 in
theorem off_on (D : Nat) (w : World) (hc : w.cell? ⟨D, 0, none⟩ = some (.bool true)) :
    Calls Try.prog 28 #[.pointer (some ⟨D, 0, none⟩)] w fun e w' => e = .returned (.bool false) ∧ w' = w := by
  go_enter Try.func28, Try.ntmps28
  go_wp2
  go_ret
  exact ⟨rfl, rfl⟩
set_option maxHeartbeats 1000000 in
theorem Size_off (v : Value) (w : World) (h : Off w v) :
    Calls Try.prog 17 #[v] w fun e w' => e = .returned (.int .i64 0) ∧ w' = w := by
  have C := Lib.hid (off_off v w h)
  clear h
  go_enter Try.func17, Try.ntmps17
  go_wp2_with fail
  refine (C.out).mono ?_
  rintro e w1 ⟨rfl, rfl⟩
  go_wp2
  go_ret
  exact ⟨rfl, rfl⟩
set_option maxHeartbeats 1000000 in
theorem Extents_off (v : Value) (w : World) (h : Off w v) :
    Calls Try.prog 18 #[v] w fun e w' => e = .returned (.slice none 0 0) ∧ w' = w := by
  have C := Lib.hid (off_off v w h)
  clear h
  go_enter Try.func18, Try.ntmps18
  go_wp2_with fail
  refine (C.out).mono ?_
  rintro e w1 ⟨rfl, rfl⟩
  go_wp2
  go_ret
  exact ⟨rfl, rfl⟩
set_option maxHeartbeats 1000000 in
theorem Copy_off (v : Value) (w : World) (h : Off w v) :
    Calls Try.prog 23 #[v] w fun e w' => e = .returned (.pointer none) ∧ w' = w := by
  have C := Lib.hid (off_off v w h)
  clear h
  go_enter Try.func23, Try.ntmps23
  go_wp2_with fail
  refine (C.out).mono ?_
  rintro e w1 ⟨rfl, rfl⟩
  go_wp2
  go_ret
  exact ⟨rfl, rfl⟩
set_option maxHeartbeats 1000000 in
theorem Cut_off (v : Value) (n : Int) (w : World) (h : Off w v) :
    Calls Try.prog 19 #[v, .int .i64 n] w fun e w' => e = .returned (.int .i64 1) ∧ w' = w := by
  have C := Lib.hid (off_off v w h)
  clear h
  go_enter Try.func19, Try.ntmps19
  go_wp2_with fail
  refine (C.out).mono ?_
  rintro e w1 ⟨rfl, rfl⟩
  go_wp2
  go_ret
  exact ⟨rfl, rfl⟩
set_option maxHeartbeats 1000000 in
theorem Write_off (v : Value) (p : Int) (b : Value) (w : World) (h : Off w v) :
    Calls Try.prog 16 #[v, .int .i64 p, b] w fun e w' => e = .returned (.int .i64 1) ∧ w' = w := by
  have C := Lib.hid (off_off v w h)
  clear h
  go_enter Try.func16, Try.ntmps16
  go_wp2_with fail
  refine (C.out).mono ?_
  rintro e w1 ⟨rfl, rfl⟩
  go_wp2
  go_ret
  exact ⟨rfl, rfl⟩
set_option maxHeartbeats 1000000 in
theorem Read_off (v : Value) (p n : Int) (w : World) (h : Off w v) :
    Calls Try.prog 13 #[v, .int .i64 p, .int .i64 n] w fun e w' => e = .returned (.tuple #[.slice none 0 0, .int .i64 1]) ∧ w' = w := by
  have C := Lib.hid (off_off v w h)
  clear h
  go_enter Try.func13, Try.ntmps13
  go_wp2_with fail
  refine (C.out).mono ?_
  rintro e w1 ⟨rfl, rfl⟩
  go_wp2
  go_ret2
  exact ⟨rfl, rfl⟩
end Go.Proofs.Ytjochldpacgcgaa.U
