/- The law ExtentNil: of no file, and of a zero one, all is refused, or nothing. -/
import Derived.Test.YtjochldpacgcgaaEworks
set_option linter.unusedVariables false
set_option linter.unusedSimpArgs false
namespace Go.Proofs.Ytjochldpacgcgaa.U
open Go.RowKit Go.Proofs Go.Lib Go.Proofs.YtjochldpacgcgaaW.PrintWords

set_option maxHeartbeats 8000000 in
set_option maxRecDepth 1000000 in
theorem ExtentNil_walk (p n : Int) (A : Option Addr) (k c : Nat) (zero : Bool) (w : World) :
    Calls Try.prog 10 #[.int .i64 p, .int .i64 n, .slice A k c, .bool zero] w fun e w' => e = .returned (.bool true) ∧ Below w.heap.size w w' := by
  cases zero with
  | false =>
    have h : Off w (.pointer none) := .inl rfl
    have C1 := Lib.hid (Read_off _ p n w h)
    have C2 := Lib.hid (Write_off _ p (.slice A k c) w h)
    have C3 := Lib.hid (Cut_off _ n w h)
    have C4 := Lib.hid (Size_off _ w h)
    have C5 := Lib.hid (Extents_off _ w h)
    have C6 := Lib.hid (Copy_off _ w h)
    clear h
    go_enter Try.func10, Try.ntmps10
    go_wp2_with fail
    refine (C1.out).mono ?_
    rintro e w1 ⟨rfl, rfl⟩
    go_wp2_with fail
    refine (C2.out).mono ?_
    rintro e w2 ⟨rfl, rfl⟩
    go_wp2_with fail
    refine (C3.out).mono ?_
    rintro e w3 ⟨rfl, rfl⟩
    go_wp2_with fail
    refine (C4.out).mono ?_
    rintro e w4 ⟨rfl, rfl⟩
    go_wp2_with fail
    refine (C5.out).mono ?_
    rintro e w5 ⟨rfl, rfl⟩
    go_wp2_with fail
    refine (C6.out).mono ?_
    rintro e w6 ⟨rfl, rfl⟩
    go_wp2_with fail
    refine (works_calls _).mono ?_
    rintro e w7 ⟨rfl, hb⟩
    go_wp2
    go_ret
    exact ⟨rfl, hb⟩
  | true =>
    have hb0 : Below w.heap.size w (w.alloc (.cells #[.bool false, .int .i64 0, .slice none 0 0] 49)) := (Below.refl _ _).alloc (Nat.le_refl _) _
    have h : Off (w.alloc (.cells #[.bool false, .int .i64 0, .slice none 0 0] 49)) (.pointer (some ⟨w.heap.size, 0, none⟩)) := .inr ⟨_, rfl, by rw [Lib.cell_of_heap (heap_alloc_new w _)]; rfl⟩
    have C1 := Lib.hid (Read_off _ p n _ h)
    have C2 := Lib.hid (Write_off _ p (.slice A k c) _ h)
    have C3 := Lib.hid (Cut_off _ n _ h)
    have C4 := Lib.hid (Size_off _ _ h)
    have C5 := Lib.hid (Extents_off _ _ h)
    have C6 := Lib.hid (Copy_off _ _ h)
    have HB := Lib.hid hb0
    clear h hb0
    go_enter Try.func10, Try.ntmps10
    go_wp2_with fail
    refine (C1.out).mono ?_
    rintro e w1 ⟨rfl, rfl⟩
    go_wp2_with fail
    refine (C2.out).mono ?_
    rintro e w2 ⟨rfl, rfl⟩
    go_wp2_with fail
    refine (C3.out).mono ?_
    rintro e w3 ⟨rfl, rfl⟩
    go_wp2_with fail
    refine (C4.out).mono ?_
    rintro e w4 ⟨rfl, rfl⟩
    go_wp2_with fail
    refine (C5.out).mono ?_
    rintro e w5 ⟨rfl, rfl⟩
    go_wp2_with fail
    refine (C6.out).mono ?_
    rintro e w6 ⟨rfl, rfl⟩
    go_wp2_with fail
    refine (works_calls _).mono ?_
    rintro e w7 ⟨rfl, hb⟩
    go_wp2
    go_ret
    exact ⟨rfl, HB.out.trans (hb.mono HB.out.size)⟩
end Go.Proofs.Ytjochldpacgcgaa.U
