/- The law CacheNil: of no cache, and of a zero one, all is refused, or nothing. -/
import Derived.Test.YtbnkiefchbcfgaaCworks
set_option linter.unusedVariables false
set_option linter.unusedSimpArgs false
namespace Go.Proofs.Ytbnkiefchbcfgaa.U
open Go.RowKit Go.Proofs Go.Lib Go.Proofs.YtbnkiefchbcfgaaW.PrintWords

set_option maxHeartbeats 8000000 in
set_option maxRecDepth 1000000 in
theorem CacheNil_walk (p n : Int) (A : Option Addr) (k c : Nat) (l : Int) (zero : Bool) (w : World) :
    Calls Try.prog 10 #[.int .i64 p, .int .i64 n, .slice A k c, .int .u8 l, .bool zero] w fun e w' => e = .returned (.bool true) ∧ Below w.heap.size w w' := by
  cases zero with
  | false =>
    go_enter Try.func10, Try.ntmps10
    go_wp2_with fail
    refine (Read_off _ p n w (.inl rfl) (fun D e => by cases e)).mono ?_
    rintro e w1 ⟨rfl, hb1⟩
    have HB1 := Lib.hid hb1
    clear hb1
    go_wp2_with fail
    refine (First_off _ w1 (.inl rfl)).mono ?_
    rintro e w2 ⟨rfl, rfl⟩
    go_wp2_with fail
    refine (Write_off _ p _ w2 (.inl rfl)).mono ?_
    rintro e w3 ⟨rfl, rfl⟩
    go_wp2_with fail
    refine (Fill_off _ p _ w3 (.inl rfl)).mono ?_
    rintro e w4 ⟨rfl, rfl⟩
    go_wp2_with fail
    refine (Settle_off _ w4 (.inl rfl)).mono ?_
    rintro e w5 ⟨rfl, rfl⟩
    go_wp2_with fail
    refine (Down_off _ l w5 (.inl rfl)).mono ?_
    rintro e w6 ⟨rfl, rfl⟩
    go_wp2_with fail
    refine (Forget_off _ n w6 (.inl rfl)).mono ?_
    rintro e w7 ⟨rfl, rfl⟩
    go_wp2_with fail
    refine (Level_off _ w7 (.inl rfl)).mono ?_
    rintro e w8 ⟨rfl, rfl⟩
    go_wp2_with fail
    refine (Size_off _ w8 (.inl rfl)).mono ?_
    rintro e w9 ⟨rfl, rfl⟩
    go_wp2_with fail
    refine (Open_off _ w9 (.inl rfl)).mono ?_
    rintro e w10 ⟨rfl, rfl⟩
    go_wp2_with fail
    refine (Pieces_off _ w10 (.inl rfl)).mono ?_
    rintro e w11 ⟨rfl, rfl⟩
    go_wp2_with fail
    refine (works_calls _).mono ?_
    rintro e w12 ⟨rfl, hb⟩
    go_wp2
    go_ret
    exact ⟨rfl, HB1.out.trans (hb.mono HB1.out.size)⟩
  | true =>
    have hb0 : Below w.heap.size w (w.alloc (.cells #[.bool false, .int .u8 0, .int .i64 0, .slice none 0 0, .slice none 0 0] 57)) := (Below.refl _ _).alloc (Nat.le_refl _) _
    have hX := heap_alloc_new w (.cells #[.bool false, .int .u8 0, .int .i64 0, .slice none 0 0, .slice none 0 0] 57)
    obtain ⟨wa, hwa⟩ : ∃ wa, w.alloc (.cells #[.bool false, .int .u8 0, .int .i64 0, .slice none 0 0, .slice none 0 0] 57) = wa := ⟨_, rfl⟩
    rw [hwa] at hb0 hX
    have hlt : w.heap.size < wa.heap.size := (Array.getElem?_eq_some_iff.1 hX).1
    have h : ∀ W, Below wa.heap.size wa W → Off W (.pointer (some ⟨w.heap.size, 0, none⟩)) := fun W hW => .inr ⟨_, rfl, by rw [Lib.cell_of_heap (kept_below hW _ _ hX)]; rfl⟩
    have C1 := Lib.hid (Read_off _ p n wa (h _ (Below.refl _ _)) (fun D e => by injection e with e; injection e with e; injection e with e; omega))
    have HO := Lib.hid h
    have HB := Lib.hid hb0
    clear h hb0 hX
    go_enter Try.func10, Try.ntmps10
    go_wp2_with fail
    refine (C1.out).mono ?_
    rintro e w1 ⟨rfl, hb1⟩
    have HB1 := Lib.hid hb1
    have HOF := Lib.hid (HO.out _ hb1)
    clear hb1 C1 hwa
    go_wp2_with fail
    refine (First_off _ w1 HOF.out).mono ?_
    rintro e w2 ⟨rfl, rfl⟩
    go_wp2_with fail
    refine (Write_off _ p _ w2 HOF.out).mono ?_
    rintro e w3 ⟨rfl, rfl⟩
    go_wp2_with fail
    refine (Fill_off _ p _ w3 HOF.out).mono ?_
    rintro e w4 ⟨rfl, rfl⟩
    go_wp2_with fail
    refine (Settle_off _ w4 HOF.out).mono ?_
    rintro e w5 ⟨rfl, rfl⟩
    go_wp2_with fail
    refine (Down_off _ l w5 HOF.out).mono ?_
    rintro e w6 ⟨rfl, rfl⟩
    go_wp2_with fail
    refine (Forget_off _ n w6 HOF.out).mono ?_
    rintro e w7 ⟨rfl, rfl⟩
    go_wp2_with fail
    refine (Level_off _ w7 HOF.out).mono ?_
    rintro e w8 ⟨rfl, rfl⟩
    go_wp2_with fail
    refine (Size_off _ w8 HOF.out).mono ?_
    rintro e w9 ⟨rfl, rfl⟩
    go_wp2_with fail
    refine (Open_off _ w9 HOF.out).mono ?_
    rintro e w10 ⟨rfl, rfl⟩
    go_wp2_with fail
    refine (Pieces_off _ w10 HOF.out).mono ?_
    rintro e w11 ⟨rfl, rfl⟩
    go_wp2_with fail
    refine (works_calls _).mono ?_
    rintro e w12 ⟨rfl, hb⟩
    have HF := HB.out.trans ((HB1.out.trans (hb.mono HB1.out.size)).mono HB.out.size)
    go_wp2
    go_ret
    exact ⟨rfl, HF⟩
end Go.Proofs.Ytbnkiefchbcfgaa.U
