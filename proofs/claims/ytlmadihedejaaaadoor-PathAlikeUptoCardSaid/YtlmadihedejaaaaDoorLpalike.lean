/- The law PathAlike: paths are alike just if they have the same names, folded; for texts of at most 2^20 bytes. -/
import Derived.Test.YtlmadihedejaaaaDoorB6
set_option linter.unusedVariables false
set_option linter.unusedSimpArgs false
namespace Go.Proofs.YtlmadihedejaaaaDoor.U
open Go.RowKit Go.Proofs Go.Lib Go.Proofs.YtlmadihedejaaaaDoorW.PrintWords Go.Proofs.YtlmadihedejaaaaDoor.PR

set_option maxHeartbeats 8000000 in
set_option maxRecDepth 1000000 in
theorem PathAlike_walk (a : ByteArray) (b : ByteArray) (w : World) (ha : a.size ≤ 1048576) (hb : b.size ≤ 1048576) (hT : Tabs w) :
    Calls Tryd.prog 8 #[.string a, .string b] w fun e w' => e = .returned (.bool true) ∧ Below w.heap.size w w' := by
  have zf : ∀ l : ByteArray, l.size ≤ 1048576 → (⟨(fold l.data.toList).toArray⟩ : ByteArray).size ≤ 1048576 := by
    intro l h
    show (fold l.data.toList).toArray.size ≤ _
    rw [List.size_toArray, fold_length, ← size_eq]
    exact h
  have zp := zf a ha
  have c1 := fun W h => Parse_calls a W (by omega) h
  have c2 := fun W h => Parse_calls b W (by omega) h
  have c3 := fun W h => PAlike_calls a b W (by omega) (by omega) h
  have c4 := fun W h => PUnder_calls a b W (by omega) (by omega) h
  have c5 := fun W h => PAlike_calls a a W (by omega) (by omega) h
  have c6 := fun W => Fold_calls a W (by omega)
  have c7 := fun W h => PAlike_calls a ⟨(fold a.data.toList).toArray⟩ W (by omega) (by omega) h
  have c8 := fun W => Fold_calls b W (by omega)
  simp only [] at c7
  have l1 := fun h => alike_not (a := a.data.toList) (b := b.data.toList) h
  have l2 := fun h => alike_self (a := a.data.toList) h
  have l3 := fun h => alike_fold (a := a.data.toList) h
  have l4 := fun h1 h2 => alike_eqv (a := a.data.toList) (b := b.data.toList) h1 h2
  have l5 := parse_cases a.data.toList
  have l6 := parse_cases b.data.toList
  have l7 : (⟨(fold a.data.toList).toArray⟩ : ByteArray).toList = fold a.data.toList := by rw [Lib.toList_data]
  have l8 : (⟨(fold b.data.toList).toArray⟩ : ByteArray).toList = fold b.data.toList := by rw [Lib.toList_data]
  clear zf zp
  generalize alikeP a.data.toList b.data.toList = al at *
  generalize underP a.data.toList b.data.toList = un at *
  generalize alikeP a.data.toList a.data.toList = aa at *
  generalize alikeP a.data.toList (fold a.data.toList) = af at *
  generalize (⟨(fold a.data.toList).toArray⟩ : ByteArray) = fa at *
  generalize (⟨(fold b.data.toList).toArray⟩ : ByteArray) = fb at *
  generalize fold a.data.toList = la at *
  generalize fold b.data.toList = lb at *
  generalize parseE a.data.toList = E1 at *
  generalize parseE b.data.toList = E2 at *
  generalize parseB a = X at *
  generalize parseB b = Y at *
  have HT := Lib.hid hT
  have B0 := Lib.hid (Below.refl w.heap.size w)
  have C1 := Lib.hid c1
  have C2 := Lib.hid c2
  have C3 := Lib.hid c3
  have C4 := Lib.hid c4
  have C5 := Lib.hid c5
  have C6 := Lib.hid c6
  have C7 := Lib.hid c7
  have C8 := Lib.hid c8
  have L1 := Lib.hid l1
  have L2 := Lib.hid l2
  have L3 := Lib.hid l3
  have L4 := Lib.hid l4
  clear hT c1 c2 c3 c4 c5 c6 c7 c8 l1 l2 l3 l4 ha hb
  go_enter Tryd.func8, Tryd.ntmps8
  go_wp2_with fail
  refine (C1.out _ HT.out).mono ?_
  rintro e w1 ⟨v1, rfl, hs, hb⟩
  have T_1 := Lib.hid (HT.out.below hb)
  have B1 := Lib.hid (B0.out.trans (hb.mono B0.out.size))
  clear hb hs HT
  go_wp2_with fail
  refine (C2.out _ T_1.out).mono ?_
  rintro e w2 ⟨v2, rfl, hs, hb⟩
  have T_2 := Lib.hid (T_1.out.below hb)
  have B2 := Lib.hid (B1.out.trans (hb.mono B1.out.size))
  clear hb hs T_1 B1
  rcases l5 with rfl | rfl | rfl
  · rcases l6 with rfl | rfl | rfl
    · obtain rfl := L2.out (by trivial)
      obtain rfl := L3.out (by trivial)
      have l4 := L4.out (by trivial) (by trivial)
      clear L1 L2 L3 L4
      go_wp2_with fail
      refine (C5.out _ T_2.out).mono ?_
      rintro e w3 ⟨rfl, hb⟩
      have T_3 := Lib.hid (T_2.out.below hb)
      have B3 := Lib.hid (B2.out.trans (hb.mono B2.out.size))
      clear hb T_2 B2
      go_wp2_with fail
      refine (C6.out _).mono ?_
      rintro e w4 ⟨rfl, hb⟩
      have T_4 := Lib.hid (T_3.out.below hb)
      have B4 := Lib.hid (B3.out.trans (hb.mono B3.out.size))
      clear hb T_3 B3
      go_wp2_with fail
      refine (C7.out _ T_4.out).mono ?_
      rintro e w5 ⟨rfl, hb⟩
      have T_5 := Lib.hid (T_4.out.below hb)
      have B5 := Lib.hid (B4.out.trans (hb.mono B4.out.size))
      clear hb T_4 B4
      go_wp2_with fail
      refine (C3.out _ T_5.out).mono ?_
      rintro e w6 ⟨rfl, hb⟩
      have T_6 := Lib.hid (T_5.out.below hb)
      have B6 := Lib.hid (B5.out.trans (hb.mono B5.out.size))
      clear hb T_5 B5
      go_wp2_with fail
      refine (C6.out _).mono ?_
      rintro e w7 ⟨rfl, hb⟩
      have T_7 := Lib.hid (T_6.out.below hb)
      have B7 := Lib.hid (B6.out.trans (hb.mono B6.out.size))
      clear hb T_6 B6
      go_wp2_with fail
      refine (C8.out _).mono ?_
      rintro e w8 ⟨rfl, hb⟩
      have T_8 := Lib.hid (T_7.out.below hb)
      have B8 := Lib.hid (B7.out.trans (hb.mono B7.out.size))
      clear hb T_7 B7
      by_cases hl : la = lb
      · subst hl
        rw [decide_eq_true rfl] at l4
        subst l4
        go_wp2_with fail
        refine (works_calls _ T_8.out).mono ?_
        rintro e w9 ⟨rfl, hb⟩
        have T_9 := Lib.hid (T_8.out.below hb)
        have B9 := Lib.hid (B8.out.trans (hb.mono B8.out.size))
        clear hb T_8 B8
        go_wp2
        go_ret
        exact ⟨rfl, B9.out⟩
      · rw [decide_eq_false hl] at l4
        subst l4
        have hq : (la == lb) = false := by simp [hl]
        go_wp2_with fail
        refine (works_calls _ T_8.out).mono ?_
        rintro e w9 ⟨rfl, hb⟩
        have T_9 := Lib.hid (T_8.out.below hb)
        have B9 := Lib.hid (B8.out.trans (hb.mono B8.out.size))
        clear hb T_8 B8
        go_wp2
        go_ret
        exact ⟨rfl, B9.out⟩
    · obtain ⟨e1, e2⟩ := L1.out (by omega)
      subst e1 e2
      go_wp2_with fail
      refine (C3.out _ T_2.out).mono ?_
      rintro e w3 ⟨rfl, hb⟩
      have T_3 := Lib.hid (T_2.out.below hb)
      have B3 := Lib.hid (B2.out.trans (hb.mono B2.out.size))
      clear hb T_2 B2
      go_wp2_with fail
      refine (C4.out _ T_3.out).mono ?_
      rintro e w4 ⟨rfl, hb⟩
      have T_4 := Lib.hid (T_3.out.below hb)
      have B4 := Lib.hid (B3.out.trans (hb.mono B3.out.size))
      clear hb T_3 B3
      go_wp2_with fail
      refine (works_calls _ T_4.out).mono ?_
      rintro e w5 ⟨rfl, hb⟩
      have T_5 := Lib.hid (T_4.out.below hb)
      have B5 := Lib.hid (B4.out.trans (hb.mono B4.out.size))
      clear hb T_4 B4
      go_wp2
      go_ret
      exact ⟨rfl, B5.out⟩
    · obtain ⟨e1, e2⟩ := L1.out (by omega)
      subst e1 e2
      go_wp2_with fail
      refine (C3.out _ T_2.out).mono ?_
      rintro e w3 ⟨rfl, hb⟩
      have T_3 := Lib.hid (T_2.out.below hb)
      have B3 := Lib.hid (B2.out.trans (hb.mono B2.out.size))
      clear hb T_2 B2
      go_wp2_with fail
      refine (C4.out _ T_3.out).mono ?_
      rintro e w4 ⟨rfl, hb⟩
      have T_4 := Lib.hid (T_3.out.below hb)
      have B4 := Lib.hid (B3.out.trans (hb.mono B3.out.size))
      clear hb T_3 B3
      go_wp2_with fail
      refine (works_calls _ T_4.out).mono ?_
      rintro e w5 ⟨rfl, hb⟩
      have T_5 := Lib.hid (T_4.out.below hb)
      have B5 := Lib.hid (B4.out.trans (hb.mono B4.out.size))
      clear hb T_4 B4
      go_wp2
      go_ret
      exact ⟨rfl, B5.out⟩
  · clear l6
    obtain ⟨e1, e2⟩ := L1.out (by omega)
    subst e1 e2
    go_wp2_with fail
    refine (C3.out _ T_2.out).mono ?_
    rintro e w3 ⟨rfl, hb⟩
    have T_3 := Lib.hid (T_2.out.below hb)
    have B3 := Lib.hid (B2.out.trans (hb.mono B2.out.size))
    clear hb T_2 B2
    go_wp2_with fail
    refine (C4.out _ T_3.out).mono ?_
    rintro e w4 ⟨rfl, hb⟩
    have T_4 := Lib.hid (T_3.out.below hb)
    have B4 := Lib.hid (B3.out.trans (hb.mono B3.out.size))
    clear hb T_3 B3
    go_wp2_with fail
    refine (works_calls _ T_4.out).mono ?_
    rintro e w5 ⟨rfl, hb⟩
    have T_5 := Lib.hid (T_4.out.below hb)
    have B5 := Lib.hid (B4.out.trans (hb.mono B4.out.size))
    clear hb T_4 B4
    go_wp2
    go_ret
    exact ⟨rfl, B5.out⟩
  · clear l6
    obtain ⟨e1, e2⟩ := L1.out (by omega)
    subst e1 e2
    go_wp2_with fail
    refine (C3.out _ T_2.out).mono ?_
    rintro e w3 ⟨rfl, hb⟩
    have T_3 := Lib.hid (T_2.out.below hb)
    have B3 := Lib.hid (B2.out.trans (hb.mono B2.out.size))
    clear hb T_2 B2
    go_wp2_with fail
    refine (C4.out _ T_3.out).mono ?_
    rintro e w4 ⟨rfl, hb⟩
    have T_4 := Lib.hid (T_3.out.below hb)
    have B4 := Lib.hid (B3.out.trans (hb.mono B3.out.size))
    clear hb T_3 B3
    go_wp2_with fail
    refine (works_calls _ T_4.out).mono ?_
    rintro e w5 ⟨rfl, hb⟩
    have T_5 := Lib.hid (T_4.out.below hb)
    have B5 := Lib.hid (B4.out.trans (hb.mono B4.out.size))
    clear hb T_4 B4
    go_wp2
    go_ret
    exact ⟨rfl, B5.out⟩
end Go.Proofs.YtlmadihedejaaaaDoor.U
