/- glob: the document's own examples; what the laws call. -/
import Derived.Test.YtfglhnnbfmpfeaaDoorRfits
import Derived.Test.YtfglhnnbfmpfeaaDoorShelf
set_option linter.unusedVariables false
set_option linter.unusedSimpArgs false
namespace Go.Proofs.YtfglhnnbfmpfeaaDoor.U
open Go.RowKit Go.Proofs Go.Lib Go.Proofs.YtfglhnnbfmpfeaaDoorW.PrintWords Go.Proofs.YtfglhnnbfmpfeaaDoor.PR

theorem ascii_of {l : List UInt8} (h : ∀ b ∈ l, b.toNat < 128) : ∀ (j : Nat) (b : UInt8), l[j]? = some b → b.toNat < 128 := fun _ b h' => h b (List.mem_of_getElem? h')
set_option maxHeartbeats 4000000 in
set_option maxRecDepth 1000000 in
/-- glob.Plain of a text of ASCII letters. -/
theorem Plain_ascii (s : ByteArray) (b : Bool) (w : World) (hs : s.size < 4294967281) (hT : Tabs w) (hv : valid s.data.toList = true) (ha : ∀ (j : Nat) b, s.data.toList[j]? = some b → b.toNat < 128) (hb : Lib.containsAny s.data.toList [42, 63] = !b) :
    Calls Tryd.prog 16 #[.string s] w fun e w' => e = .returned (.bool b) ∧ Below w.heap.size w w' := by
  have c1 := Units_calls s w (by omega) hT
  have c2 := fun W => Tryd.strings_ContainsAny_laid s ⟨#[42, 63]⟩ W hs (by decide) ha (ascii_of (by decide))
  rw [show (⟨#[42, 63]⟩ : ByteArray).data.toList = [42, 63] from rfl, hb] at c2
  unfold errOf at c1
  rw [if_pos hv] at c1
  have C1 := Lib.hid c1
  have C2 := Lib.hid c2
  clear c1 c2 hT ha hb hv
  go_enter Tryd.func16, Tryd.ntmps16
  go_wp2_with fail
  refine (C1.out).mono ?_
  rintro e w1 ⟨rfl, hb1⟩
  have B1 := Lib.hid hb1
  clear hb1
  go_wp2_with fail
  refine (C2.out _).mono ?_
  rintro e w2 ⟨rfl, hb2⟩
  have B2 := Lib.hid (B1.out.trans (hb2.mono B1.out.size))
  clear hb2
  go_wp2
  go_ret
  exact ⟨by simp, B2.out⟩

theorem ex_fit1 : fitB [42, 46, 84, 88, 84] [97, 46, 116, 120, 116] = true ∧ askE [42, 46, 84, 88, 84] [97, 46, 116, 120, 116] = 0 := by decide +kernel
theorem ex_fit2 : fitB [97, 63, 99] [97, 99] = false ∧ askE [97, 63, 99] [97, 99] = 0 := by decide +kernel

set_option maxHeartbeats 4000000 in
set_option maxRecDepth 1000000 in
theorem works_calls (w : World) (hT : Tabs w) :
    Calls Tryd.prog 12 #[] w fun e w' => e = .returned (.bool true) ∧ Below w.heap.size w w' := by
  have c1 := Fits_calls ⟨#[42, 46, 84, 88, 84]⟩ ⟨#[97, 46, 116, 120, 116]⟩ w (by decide) (by decide) hT
  have c2 := fun W h => Fits_calls ⟨#[97, 63, 99]⟩ ⟨#[97, 99]⟩ W (by decide) (by decide) h
  have c3 := fun W h => Plain_ascii ⟨#[97, 46, 98]⟩ true W (by decide) h (by decide +kernel) (ascii_of (by decide)) (by decide +kernel)
  have c4 := fun W h => Plain_ascii ⟨#[97, 42]⟩ false W (by decide) h (by decide +kernel) (ascii_of (by decide)) (by decide +kernel)
  rw [show (⟨#[42, 46, 84, 88, 84]⟩ : ByteArray).data.toList = [42, 46, 84, 88, 84] from rfl, show (⟨#[97, 46, 116, 120, 116]⟩ : ByteArray).data.toList = [97, 46, 116, 120, 116] from rfl, ex_fit1.1, ex_fit1.2] at c1
  rw [show (⟨#[97, 63, 99]⟩ : ByteArray).data.toList = [97, 63, 99] from rfl, show (⟨#[97, 99]⟩ : ByteArray).data.toList = [97, 99] from rfl, ex_fit2.1, ex_fit2.2] at c2
  have C1 := Lib.hid c1
  have C2 := Lib.hid c2
  have C3 := Lib.hid c3
  have C4 := Lib.hid c4
  have HT := Lib.hid hT
  clear c1 c2 c3 c4 hT
  go_enter Tryd.func12, Tryd.ntmps12
  go_wp2_with fail
  refine (C1.out).mono ?_
  rintro e w1 ⟨rfl, hb1⟩
  have B1 := Lib.hid hb1
  clear hb1
  go_wp2_with fail
  refine (C2.out _ (HT.out.below B1.out)).mono ?_
  rintro e w2 ⟨rfl, hb2⟩
  have B2 := Lib.hid (B1.out.trans (hb2.mono B1.out.size))
  clear hb2
  go_wp2_with fail
  refine (C3.out _ (HT.out.below B2.out)).mono ?_
  rintro e w3 ⟨rfl, hb3⟩
  have B3 := Lib.hid (B2.out.trans (hb3.mono B2.out.size))
  clear hb3
  go_wp2_with fail
  refine (C4.out _ (HT.out.below B3.out)).mono ?_
  rintro e w4 ⟨rfl, hb4⟩
  have B4 := Lib.hid (B3.out.trans (hb4.mono B3.out.size))
  clear hb4
  go_wp2
  go_ret
  exact ⟨rfl, B4.out⟩

set_option maxHeartbeats 4000000 in
set_option maxRecDepth 1000000 in
theorem GlobFits_walk (a b : ByteArray) (w : World) (ha : a.size ≤ 1048576) (hb : b.size ≤ 1048576) (hT : Tabs w) :
    Calls Tryd.prog 3 #[.string a, .string b] w fun e w' => e = .returned (.bool true) ∧ Below w.heap.size w w' := by
  have c1 := Fits_calls a b w (by omega) (by omega) hT
  have c2 := fun W => refectoryref05_Fits.calls _ a b _ _ W (RFits_eq a b (by omega) (by omega) _ (Nat.le_refl _))
  generalize fitB a.data.toList b.data.toList = F at *
  generalize askE a.data.toList b.data.toList = E at *
  have C1 := Lib.hid c1
  have C2 := Lib.hid c2
  have HT := Lib.hid hT
  have dE : ((E : Int) == E) = true := by simp
  have dF : (F == F) = true := by simp
  clear c1 c2 hT ha hb
  go_enter Tryd.func3, Tryd.ntmps3
  go_wp2_with fail
  refine (C1.out).mono ?_
  rintro e w1 ⟨rfl, hb1⟩
  have B1 := Lib.hid hb1
  clear hb1
  go_wp2_with fail
  refine (C2.out _).mono ?_
  rintro e w2 ⟨rfl, hb2⟩
  have B2 := Lib.hid (B1.out.trans (Below.mono (by first | exact hb2 | exact hb2.below) B1.out.size))
  clear hb2
  go_wp2_with fail
  refine (works_calls _ (HT.out.below B2.out)).mono ?_
  rintro e w3 ⟨rfl, hb3⟩
  have B3 := Lib.hid (B2.out.trans (hb3.mono B2.out.size))
  clear hb3
  go_wp2
  go_ret
  exact ⟨rfl, B3.out⟩
end Go.Proofs.YtfglhnnbfmpfeaaDoor.U
