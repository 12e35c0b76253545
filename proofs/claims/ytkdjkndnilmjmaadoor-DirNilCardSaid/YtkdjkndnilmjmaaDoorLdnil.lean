/- The law DirNil: of no directory, and of a zero one, all is refused, or nothing. -/
import Derived.Test.YtkdjkndnilmjmaaDoorK5
set_option linter.unusedVariables false
set_option linter.unusedSimpArgs false
namespace Go.Proofs.YtkdjkndnilmjmaaDoor.U
open Go.RowKit Go.Proofs Go.Lib Go.Proofs.YtkdjkndnilmjmaaDoorW.PrintWords

set_option maxHeartbeats 8000000 in
set_option maxRecDepth 1000000 in
theorem DirNil_walk (s t : ByteArray) (n : Int) (zero : Bool) (w : World) (hT : Tabs w) :
    Calls Tryd.prog 9 #[.string s, .string t, .int .i64 n, .bool zero] w fun e w' => e = .returned (.bool true) ∧ Below w.heap.size w w' := by
  have HT := Lib.hid hT
  clear hT
  obtain ⟨v, w0, hv, hoff, hb0⟩ : ∃ v w0, (v, w0) = (match zero with | false => ((.pointer none : Value), w) | true => ((.pointer (some ⟨w.heap.size, 0, none⟩) : Value), w.alloc (.cells #[.slice none 0 0, .map none] 48))) ∧ Off w0 v ∧ Below w.heap.size w w0 := by
    cases zero with
    | false => exact ⟨_, _, rfl, .inl rfl, Below.refl _ _⟩
    | true =>
      refine ⟨_, _, rfl, .inr ⟨_, rfl, by simp, ?_⟩, (Below.refl _ _).alloc (Nat.le_refl _) _⟩
      rw [Lib.cell_of_heap (heap_alloc_new w (.cells #[.slice none 0 0, .map none] 48))]
      rfl
  have C1 := Lib.hid (Find_off v s w0 hoff)
  have C2 := Lib.hid (List_off v s t n w0 hoff)
  have HO := Lib.hid (fun W (hW : Below w0.heap.size w0 W) => hoff.below hW)
  have HB := Lib.hid hb0
  have fin : ∀ (W : World), Below w0.heap.size w0 W → Below w.heap.size w W := fun W hW => HB.out.trans (hW.mono HB.out.size)
  have FIN := Lib.hid fin
  clear hoff hb0 fin
  cases zero with
  | false =>
    obtain ⟨rfl, rfl⟩ : v = .pointer none ∧ w0 = w := by
      injection hv with h1 h2
      exact ⟨h1, h2⟩
    clear hv
    go_enter Tryd.func9, Tryd.ntmps9
    go_wp2_with fail
    refine (C1.out).mono ?_
    rintro e w1 ⟨rfl, rfl⟩
    go_wp2_with fail
    refine (C2.out).mono ?_
    rintro e w2 ⟨rfl, hb2⟩
    have C3 := Lib.hid (Add_off _ s n w2 (HO.out _ hb2))
    have C4 := Lib.hid (Remove_off _ s w2 (HO.out _ hb2))
    have C5 := Lib.hid (Rename_off _ s t w2 (HO.out _ hb2))
    have C6 := Lib.hid (Len_off _ w2 (HO.out _ hb2))
    have HB2 := Lib.hid hb2
    clear hb2 C1 C2
    go_wp2_with fail
    refine (C3.out).mono ?_
    rintro e w3 ⟨rfl, rfl⟩
    clear C3
    go_wp2_with fail
    refine (C4.out).mono ?_
    rintro e w3 ⟨rfl, rfl⟩
    clear C4
    go_wp2_with fail
    refine (C5.out).mono ?_
    rintro e w3 ⟨rfl, rfl⟩
    clear C5
    go_wp2_with fail
    refine (C6.out).mono ?_
    rintro e w3 ⟨rfl, rfl⟩
    clear C6
    have HBF := Lib.hid (FIN.out _ HB2.out)
    go_wp2_with fail
    refine (works_calls _ (HT.out.below HBF.out)).mono ?_
    rintro e w4 ⟨rfl, hb4⟩
    go_wp2
    go_ret
    exact ⟨rfl, HBF.out.trans (hb4.mono HBF.out.size)⟩
  | true =>
    injection hv with h1 h2
    subst h1
    go_enter Tryd.func9, Tryd.ntmps9
    go_wp2_with fail
    rw [← h2]
    clear h2
    go_wp2_with fail
    refine (C1.out).mono ?_
    rintro e w1 ⟨rfl, rfl⟩
    go_wp2_with fail
    refine (C2.out).mono ?_
    rintro e w2 ⟨rfl, hb2⟩
    have C3 := Lib.hid (Add_off _ s n w2 (HO.out _ hb2))
    have C4 := Lib.hid (Remove_off _ s w2 (HO.out _ hb2))
    have C5 := Lib.hid (Rename_off _ s t w2 (HO.out _ hb2))
    have C6 := Lib.hid (Len_off _ w2 (HO.out _ hb2))
    have HB2 := Lib.hid hb2
    clear hb2 C1 C2
    go_wp2_with fail
    refine (C3.out).mono ?_
    rintro e w3 ⟨rfl, rfl⟩
    clear C3
    go_wp2_with fail
    refine (C4.out).mono ?_
    rintro e w3 ⟨rfl, rfl⟩
    clear C4
    go_wp2_with fail
    refine (C5.out).mono ?_
    rintro e w3 ⟨rfl, rfl⟩
    clear C5
    go_wp2_with fail
    refine (C6.out).mono ?_
    rintro e w3 ⟨rfl, rfl⟩
    clear C6
    have HBF := Lib.hid (FIN.out _ HB2.out)
    go_wp2_with fail
    refine (works_calls _ (HT.out.below HBF.out)).mono ?_
    rintro e w4 ⟨rfl, hb4⟩
    go_wp2
    go_ret
    exact ⟨rfl, HBF.out.trans (hb4.mono HBF.out.size)⟩
end Go.Proofs.YtkdjkndnilmjmaaDoor.U
