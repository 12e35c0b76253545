/- The laws UtfOrder and UtfAgain: their walks; for texts of at most 2^20 bytes. -/
import Derived.Test.YtanncmaojnmldaaDoorUlaw
set_option linter.unusedVariables false
set_option linter.unusedSimpArgs false
namespace Go.Proofs.YtanncmaojnmldaaDoor.U
open Go.RowKit Go.Proofs Go.Lib Go.Proofs.YtanncmaojnmldaaDoorW.PrintWords Go.Proofs.YtanncmaojnmldaaDoor.PR

/-- What UtfOrder asks of a table of answers. -/
theorem order_table (a b c : List UInt8) (ab ba l ac bc : Bool) (h1 : aheadB a b = ab) (h2 : aheadB b a = ba) (h3 : alikeB a b = l) (h4 : aheadB a c = ac) (h5 : aheadB b c = bc) :
    (ab = true ∧ ba = false ∧ l = false ∧ (bc = true → ac = true)) ∨ (ab = false ∧ ba = true ∧ l = false) ∨ (ab = false ∧ ba = false ∧ l = true ∧ ac = bc) := by
  subst h1 h2 h3 h4 h5
  rcases order_one a b with ⟨e1, e2, e3⟩ | ⟨e1, e2, e3⟩ | ⟨e1, e2, e3⟩
  · exact .inl ⟨e1, e2, e3, fun h => ahead_trans e1 h⟩
  · exact .inr (.inl ⟨e1, e2, e3⟩)
  · exact .inr (.inr ⟨e1, e2, e3, alike_ahead e3⟩)

set_option maxHeartbeats 8000000 in
set_option maxRecDepth 1000000 in
theorem UtfOrder_walk (a b c : ByteArray) (w : World) (ha : a.size ≤ 1048576) (hb : b.size ≤ 1048576) (hc : c.size ≤ 1048576) (hT : Tabs w) :
    Calls Tryd.prog 7 #[.string a, .string b, .string c] w fun e w' => e = .returned (.bool true) ∧ Below w.heap.size w w' := by
  have c1 := fun W => Ahead_calls a b W (by omega) (by omega)
  have c2 := fun W => Ahead_calls b a W (by omega) (by omega)
  have c3 := fun W => Alike_calls a b W (by omega) (by omega)
  have c4 := fun W => Ahead_calls a c W (by omega) (by omega)
  have c5 := fun W => Ahead_calls b c W (by omega) (by omega)
  obtain ⟨ab, h1⟩ : ∃ z, aheadB a.data.toList b.data.toList = z := ⟨_, rfl⟩
  obtain ⟨ba, h2⟩ : ∃ z, aheadB b.data.toList a.data.toList = z := ⟨_, rfl⟩
  obtain ⟨l, h3⟩ : ∃ z, alikeB a.data.toList b.data.toList = z := ⟨_, rfl⟩
  obtain ⟨ac, h4⟩ : ∃ z, aheadB a.data.toList c.data.toList = z := ⟨_, rfl⟩
  obtain ⟨bc, h5⟩ : ∃ z, aheadB b.data.toList c.data.toList = z := ⟨_, rfl⟩
  have ht := order_table _ _ _ ab ba l ac bc h1 h2 h3 h4 h5
  rw [h1] at c1
  rw [h2] at c2
  rw [h3] at c3
  rw [h4] at c4
  rw [h5] at c5
  clear h1 h2 h3 h4 h5 ha hb hc
  have HT := Lib.hid hT
  clear hT
  have fin : ∀ W, Below w.heap.size w W → Calls Tryd.prog 15 #[] W fun e w' => e = .returned (.bool true) ∧ Below w.heap.size w w' := fun W hW =>
    (works_calls W (HT.out.below hW)).mono fun e w' ⟨he, hb⟩ => ⟨he, hW.trans (hb.mono hW.size)⟩
  have C1 : Hid (∀ W, Below w.heap.size w W → Calls Tryd.prog 19 #[.string a, .string b] W fun e w' => e = .returned (.bool ab) ∧ Below w.heap.size w w') := Lib.hid fun W hW => (c1 W).mono fun e w' ⟨he, hb⟩ => ⟨he, hW.trans (hb.mono hW.size)⟩
  have C2 : Hid (∀ W, Below w.heap.size w W → Calls Tryd.prog 19 #[.string b, .string a] W fun e w' => e = .returned (.bool ba) ∧ Below w.heap.size w w') := Lib.hid fun W hW => (c2 W).mono fun e w' ⟨he, hb⟩ => ⟨he, hW.trans (hb.mono hW.size)⟩
  have C3 : Hid (∀ W, Below w.heap.size w W → Calls Tryd.prog 20 #[.string a, .string b] W fun e w' => e = .returned (.bool l) ∧ Below w.heap.size w w') := Lib.hid fun W hW => (c3 W).mono fun e w' ⟨he, hb⟩ => ⟨he, hW.trans (hb.mono hW.size)⟩
  have C4 : Hid (∀ W, Below w.heap.size w W → Calls Tryd.prog 19 #[.string a, .string c] W fun e w' => e = .returned (.bool ac) ∧ Below w.heap.size w w') := Lib.hid fun W hW => (c4 W).mono fun e w' ⟨he, hb⟩ => ⟨he, hW.trans (hb.mono hW.size)⟩
  have C5 : Hid (∀ W, Below w.heap.size w W → Calls Tryd.prog 19 #[.string b, .string c] W fun e w' => e = .returned (.bool bc) ∧ Below w.heap.size w w') := Lib.hid fun W hW => (c5 W).mono fun e w' ⟨he, hb⟩ => ⟨he, hW.trans (hb.mono hW.size)⟩
  have FIN := Lib.hid fin
  have B0 := Lib.hid (Below.refl w.heap.size w)
  clear c1 c2 c3 c4 c5 fin HT
  go_enter Tryd.func7, Tryd.ntmps7
  rcases ht with ⟨rfl, rfl, rfl, ht⟩ | ⟨rfl, rfl, rfl⟩ | ⟨rfl, rfl, rfl, rfl⟩
  · go_wp2_with fail
    refine (C1.out _ B0.out).mono ?_
    rintro e w1 ⟨rfl, hb1⟩
    have B1 := Lib.hid hb1
    clear hb1
    go_wp2_with fail
    refine (C2.out _ B1.out).mono ?_
    rintro e w2 ⟨rfl, hb2⟩
    have B2 := Lib.hid hb2
    clear hb2
    go_wp2_with fail
    refine (C3.out _ B2.out).mono ?_
    rintro e w3 ⟨rfl, hb3⟩
    have B3 := Lib.hid hb3
    clear hb3
    go_wp2_with fail
    refine (C1.out _ B3.out).mono ?_
    rintro e w4 ⟨rfl, hb4⟩
    have B4 := Lib.hid hb4
    clear hb4
    go_wp2_with fail
    refine (C5.out _ B4.out).mono ?_
    rintro e w5 ⟨rfl, hb5⟩
    have B5 := Lib.hid hb5
    clear hb5
    cases bc with
    | true =>
      obtain rfl : ac = true := ht rfl
      go_wp2_with fail
      refine (C4.out _ B5.out).mono ?_
      rintro e w6 ⟨rfl, hb6⟩
      have B6 := Lib.hid hb6
      clear hb6
      go_wp2_with fail
      refine (C3.out _ B6.out).mono ?_
      rintro e w7 ⟨rfl, hb7⟩
      have B7 := Lib.hid hb7
      clear hb7
      go_wp2_with fail
      refine (FIN.out _ B7.out).mono ?_
      rintro e w8 ⟨rfl, hb8⟩
      go_wp2
      go_ret
      exact ⟨rfl, hb8⟩
    | false =>
      go_wp2_with fail
      refine (C3.out _ B5.out).mono ?_
      rintro e w7 ⟨rfl, hb7⟩
      have B7 := Lib.hid hb7
      clear hb7
      go_wp2_with fail
      refine (FIN.out _ B7.out).mono ?_
      rintro e w8 ⟨rfl, hb8⟩
      go_wp2
      go_ret
      exact ⟨rfl, hb8⟩
  · go_wp2_with fail
    refine (C1.out _ B0.out).mono ?_
    rintro e w1 ⟨rfl, hb1⟩
    have B1 := Lib.hid hb1
    clear hb1
    go_wp2_with fail
    refine (C2.out _ B1.out).mono ?_
    rintro e w2 ⟨rfl, hb2⟩
    have B2 := Lib.hid hb2
    clear hb2
    go_wp2_with fail
    refine (C3.out _ B2.out).mono ?_
    rintro e w3 ⟨rfl, hb3⟩
    have B3 := Lib.hid hb3
    clear hb3
    go_wp2_with fail
    refine (C1.out _ B3.out).mono ?_
    rintro e w4 ⟨rfl, hb4⟩
    have B4 := Lib.hid hb4
    clear hb4
    go_wp2_with fail
    refine (C3.out _ B4.out).mono ?_
    rintro e w7 ⟨rfl, hb7⟩
    have B7 := Lib.hid hb7
    clear hb7
    go_wp2_with fail
    refine (FIN.out _ B7.out).mono ?_
    rintro e w8 ⟨rfl, hb8⟩
    go_wp2
    go_ret
    exact ⟨rfl, hb8⟩
  · go_wp2_with fail
    refine (C1.out _ B0.out).mono ?_
    rintro e w1 ⟨rfl, hb1⟩
    have B1 := Lib.hid hb1
    clear hb1
    go_wp2_with fail
    refine (C2.out _ B1.out).mono ?_
    rintro e w2 ⟨rfl, hb2⟩
    have B2 := Lib.hid hb2
    clear hb2
    go_wp2_with fail
    refine (C3.out _ B2.out).mono ?_
    rintro e w3 ⟨rfl, hb3⟩
    have B3 := Lib.hid hb3
    clear hb3
    go_wp2_with fail
    refine (C1.out _ B3.out).mono ?_
    rintro e w4 ⟨rfl, hb4⟩
    have B4 := Lib.hid hb4
    clear hb4
    go_wp2_with fail
    refine (C3.out _ B4.out).mono ?_
    rintro e w5 ⟨rfl, hb5⟩
    have B5 := Lib.hid hb5
    clear hb5
    go_wp2_with fail
    refine (C4.out _ B5.out).mono ?_
    rintro e w6 ⟨rfl, hb6⟩
    have B6 := Lib.hid hb6
    clear hb6
    go_wp2_with fail
    refine (C5.out _ B6.out).mono ?_
    rintro e w7 ⟨rfl, hb7⟩
    have B7 := Lib.hid hb7
    clear hb7
    have hz : (ac == ac) = true := by simp
    go_wp2_with fail
    refine (FIN.out _ B7.out).mono ?_
    rintro e w8 ⟨rfl, hb8⟩
    go_wp2
    go_ret
    exact ⟨rfl, hb8⟩

theorem str_beq (x y : ByteArray) : (x.toList == y.toList) = decide (x = y) := by
  by_cases h : x = y
  · subst h; simp
  · rw [decide_eq_false h, beq_eq_false_iff_ne]
    intro e
    exact h (ByteArray.ext (Array.toList_inj.1 (by rw [← ByteArray.toList_eq, ← ByteArray.toList_eq]; exact e)))

set_option maxHeartbeats 8000000 in
set_option maxRecDepth 1000000 in
theorem UtfAgain_walk (a b : ByteArray) (w : World) (ha : a.size ≤ 1048576) (hb : b.size ≤ 1048576) (hT : Tabs w) :
    Calls Tryd.prog 8 #[.string a, .string b] w fun e w' => e = .returned (.bool true) ∧ Below w.heap.size w w' := by
  obtain ⟨x, hx⟩ : ∃ x : ByteArray, ⟨(fold a.data.toList).toArray⟩ = x := ⟨_, rfl⟩
  obtain ⟨y, hy⟩ : ∃ y : ByteArray, ⟨(fold b.data.toList).toArray⟩ = y := ⟨_, rfl⟩
  have hxl : x.data.toList = fold a.data.toList := by rw [← hx]
  have hyl : y.data.toList = fold b.data.toList := by rw [← hy]
  have hxs : x.size = a.size := by rw [size_eq, hxl, fold_length, ← size_eq]
  have hxx : (⟨(fold x.data.toList).toArray⟩ : ByteArray) = x := by rw [hxl, fold_fold, hx]
  have c1 := fun W => Fold_calls a W (by omega)
  have c2 := fun W => Fold_calls b W (by omega)
  have c3 := fun W => Fold_calls x W (by omega)
  have c4 := fun W => Alike_calls a x W (by omega) (by omega)
  have c5 := fun W => Alike_calls a b W (by omega) (by omega)
  rw [hxl, alike_fold] at c4
  rw [hx] at c1
  rw [hy] at c2
  rw [hxx] at c3
  have hl : alikeB a.data.toList b.data.toList = decide (x = y) := by
    rw [alike_eq]
    refine decide_eq_decide.2 ⟨fun h => ?_, fun h => ?_⟩
    · rw [← hx, ← hy, h]
    · rw [← hxl, ← hyl, h]
  rw [hl] at c5
  have hxs' : (x.size : Int) = (a.size : Int) := by rw [hxs]
  clear hl hx hy hxl hyl hxx
  have HT := Lib.hid hT
  clear hT
  have FIN : Hid (∀ W, Below w.heap.size w W → Calls Tryd.prog 15 #[] W fun e w' => e = .returned (.bool true) ∧ Below w.heap.size w w') := Lib.hid fun W hW =>
    (works_calls W (HT.out.below hW)).mono fun e w' ⟨he, hb⟩ => ⟨he, hW.trans (hb.mono hW.size)⟩
  have C1 := Lib.hid c1
  have C2 := Lib.hid c2
  have C3 := Lib.hid c3
  have C4 := Lib.hid c4
  have C5 := Lib.hid c5
  clear c1 c2 c3 c4 c5 HT ha hb
  go_enter Tryd.func8, Tryd.ntmps8
  go_wp2_with fail
  refine (C1.out _).mono ?_
  rintro e w1 ⟨rfl, hb1⟩
  have B1 := Lib.hid hb1
  clear hb1
  go_wp2_with fail
  refine (C2.out _).mono ?_
  rintro e w2 ⟨rfl, hb2⟩
  have B2 := Lib.hid (B1.out.trans (hb2.mono B1.out.size))
  clear hb2 B1
  go_wp2_with fail
  refine (C3.out _).mono ?_
  rintro e w3 ⟨rfl, hb3⟩
  have B3 := Lib.hid (B2.out.trans (hb3.mono B2.out.size))
  clear hb3 B2
  go_wp2_with fail
  refine (C4.out _).mono ?_
  rintro e w4 ⟨rfl, hb4⟩
  have B4 := Lib.hid (B3.out.trans (hb4.mono B3.out.size))
  clear hb4 B3
  go_wp2_with fail
  refine (C5.out _).mono ?_
  rintro e w5 ⟨rfl, hb5⟩
  have B5 := Lib.hid (B4.out.trans (hb5.mono B4.out.size))
  clear hb5 B4
  have hz : (decide (x = y) == (x.toList == y.toList)) = true := by rw [str_beq]; simp
  go_wp2_with fail
  refine (FIN.out _ B5.out).mono ?_
  rintro e w8 ⟨rfl, hb8⟩
  go_wp2
  go_ret
  exact ⟨rfl, hb8⟩
end Go.Proofs.YtanncmaojnmldaaDoor.U
