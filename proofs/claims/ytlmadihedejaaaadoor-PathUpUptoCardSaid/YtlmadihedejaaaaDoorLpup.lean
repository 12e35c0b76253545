/- The law PathUp: a path is under its parent's, and all that is under it is; for texts of at most 2^20 bytes. -/
import Derived.Test.YtlmadihedejaaaaDoorB6
set_option linter.unusedVariables false
set_option linter.unusedSimpArgs false
namespace Go.Proofs.YtlmadihedejaaaaDoor.U
open Go.RowKit Go.Proofs Go.Lib Go.Proofs.YtlmadihedejaaaaDoorW.PrintWords Go.Proofs.YtlmadihedejaaaaDoor.PR

set_option maxHeartbeats 8000000 in
set_option maxRecDepth 1000000 in
theorem PathUp_walk (s : ByteArray) (t : ByteArray) (w : World) (hs : s.size ≤ 1048576) (ht : t.size ≤ 1048576) (hT : Tabs w) :
    Calls Tryd.prog 4 #[.string s, .string t] w fun e w' => e = .returned (.bool true) ∧ Below w.heap.size w w' := by
  have zD : parentE s.data.toList = 0 → (mkB (parentD s.data.toList)).size ≤ 1048576 := by
    intro h
    obtain ⟨q1, q2, _⟩ := parent_facts s (parent_ok h).1 (by
      rw [parseB_length]
      exact List.length_pos_iff.2 (parent_ok h).2.2)
    have hj := (parse_ok (parent_ok h).1).2.2.1
    have hd := drop_last (parent_ok h).2.2
    have hle : (jn (parseL s.data.toList).dropLast).length ≤ (jn (parseL s.data.toList)).length := by
      conv => rhs; rw [hd]
      exact jn_init _ _
    rw [hj, ← size_eq] at hle
    rw [mkB_size]
    unfold parentD
    rw [if_pos h]
    omega
  have zN : parentE s.data.toList = 0 → (mkB (parentN s.data.toList)).size ≤ 1048576 := by
    intro h
    obtain ⟨_, _, x, q3, q4⟩ := parent_facts s (parent_ok h).1 (by
      rw [parseB_length]
      exact List.length_pos_iff.2 (parent_ok h).2.2)
    rw [q4]
    have := parseB_size s x (List.mem_of_getElem? q3)
    omega
  have c1 := fun W h => Parent_calls s W (by omega) h
  have c2 := fun (hE : parentE s.data.toList = 0) W h => Parse_calls (mkB (parentD s.data.toList)) W (by have := zD hE; omega) h
  have c3 := fun (hE : parentE s.data.toList = 0) W h => Name_calls (mkB (parentN s.data.toList)) W (by have := zN hE; omega) h
  have c4 := fun (hE : parentE s.data.toList = 0) W h => PUnder_calls s (mkB (parentD s.data.toList)) W (by omega) (by have := zD hE; omega) h
  have c5 := fun W h => PUnder_calls t s W (by omega) (by omega) h
  have c6 := fun (hE : parentE s.data.toList = 0) W h => PUnder_calls t (mkB (parentD s.data.toList)) W (by omega) (by have := zD hE; omega) h
  have c7 := fun (hE : parentE s.data.toList = 0) W A c (h : TR W A c (parseB (mkB (parentD s.data.toList)) ++ [mkB (parentN s.data.toList)])) hT => Join_calls A c _ W h (fun x hm => by
    have z1 := zD hE
    have z2 := zN hE
    rcases List.mem_append.1 hm with hm | hm
    · have := parseB_size _ x hm
      omega
    · rw [List.mem_singleton.1 hm]
      omega) hT
  simp only [mkB_list] at c2 c3 c4 c6
  have l1 := fun h => up_facts (l := s.data.toList) h
  have l2 := fun (h : parentE s.data.toList = 0) => (show lst (parseB (mkB (parentD s.data.toList)) ++ [mkB (parentN s.data.toList)]) = (parseL s.data.toList).dropLast ++ [parentN s.data.toList] by
    unfold lst
    rw [List.map_append]
    have := lst_parse (mkB (parentD s.data.toList))
    unfold lst at this
    rw [this, mkB_list, (up_facts h).2.1]
    rfl)
  have l3 := fun h1 h2 => under_trans (a := t.data.toList) (b := s.data.toList) (c := parentD s.data.toList) h1 h2
  have l4 : parentE s.data.toList ≠ 0 → mkB (parentD s.data.toList) = ⟨#[]⟩ ∧ mkB (parentN s.data.toList) = ⟨#[]⟩ := by
    intro h
    unfold parentD parentN
    rw [if_neg h, if_neg h]
    exact ⟨rfl, rfl⟩
  have h8 := parseB_max (mkB (parentD s.data.toList))
  have h9 := mkB_of s
  generalize parseB (mkB (parentD s.data.toList)) = X at *
  generalize underP s.data.toList (parentD s.data.toList) = u1 at *
  generalize underP t.data.toList s.data.toList = u2 at *
  generalize underP t.data.toList (parentD s.data.toList) = u3 at *
  generalize parseE (parentD s.data.toList) = E2 at *
  generalize nameB (parentN s.data.toList) = b at *
  generalize mkB (parentD s.data.toList) = D at *
  generalize hn : mkB (parentN s.data.toList) = n at *
  generalize hE : parentE s.data.toList = E at *
  obtain ⟨Y, hY⟩ : ∃ Y, X ++ [n] = Y := ⟨_, rfl⟩
  have hYl : Y.length = X.length + 1 := by rw [← hY]; simp
  have HYL := Lib.hid hYl
  clear hYl
  rw [hY] at l2
  simp only [hY] at c7
  clear zD zN hE
  have HT := Lib.hid hT
  have B0 := Lib.hid (Below.refl w.heap.size w)
  have C1 := Lib.hid c1
  have C2 := Lib.hid c2
  have C3 := Lib.hid c3
  have C4 := Lib.hid c4
  have C5 := Lib.hid c5
  have C6 := Lib.hid c6
  have C7 := Lib.hid c7
  have L1 := Lib.hid l1
  have L2 := Lib.hid l2
  have L3 := Lib.hid l3
  have L4 := Lib.hid l4
  clear hT c1 c2 c3 c4 c5 c6 c7 l1 l2 l3 l4 hs ht
  go_enter Tryd.func4, Tryd.ntmps4
  go_wp2_with fail
  refine (C1.out _ HT.out).mono ?_
  rintro e w1 ⟨rfl, hb⟩
  have T_1 := Lib.hid (HT.out.below hb)
  have B1 := Lib.hid (B0.out.trans (hb.mono B0.out.size))
  clear hb HT
  by_cases h0 : E = 0
  · subst h0
    obtain ⟨e1, _, e2, e3, e4, e5⟩ := L1.out (by trivial)
    have l2 := L2.out (by trivial)
    subst e1 e2 e3
    go_wp2_with fail
    refine (C2.out (by trivial) _ T_1.out).mono ?_
    rintro e w2 ⟨v1, rfl, hs, hb⟩
    have T_2 := Lib.hid (T_1.out.below hb)
    have B2 := Lib.hid (B1.out.trans (hb.mono B1.out.size))
    have S_2 := Lib.hid hs
    clear hb hs T_1 B1
    go_wp2_with fail
    refine (C3.out (by trivial) _ T_2.out).mono ?_
    rintro e w3 ⟨rfl, hb⟩
    have T_3 := Lib.hid (T_2.out.below hb)
    have S_3 := Lib.hid (S_2.out.below hb)
    have B3 := Lib.hid (B2.out.trans (hb.mono B2.out.size))
    clear hb T_2 S_2 B2
    go_wp2_with fail
    refine (C4.out (by trivial) _ T_3.out).mono ?_
    rintro e w4 ⟨rfl, hb⟩
    have T_4 := Lib.hid (T_3.out.below hb)
    have S_4 := Lib.hid (S_3.out.below hb)
    have B4 := Lib.hid (B3.out.trans (hb.mono B3.out.size))
    clear hb T_3 S_3 B3
    go_wp2_with fail
    refine (C5.out _ T_4.out).mono ?_
    rintro e w5 ⟨rfl, hb⟩
    have T_5 := Lib.hid (T_4.out.below hb)
    have S_5 := Lib.hid (S_4.out.below hb)
    have B5 := Lib.hid (B4.out.trans (hb.mono B4.out.size))
    clear hb T_4 S_4 B4
    cases u2 with
    | false =>
      have B5_ := Lib.hid B5.out
      have T5_ := Lib.hid T_5.out
      obtain ⟨A1, k1, rfl, hk1, hc1⟩ := S_5.out.reads
      have HC1 := Lib.hid hc1
      clear hc1
      go_wp2_with (at_builtin; refine Kd.R_append_rows Kd.string (w0 := w5) w5.heap.size rfl _ _ 22 9 (.string ⟨#[]⟩) 16 rfl Tryd.underlying22 infoS rfl (by decide) (by decide) _ [] X A1 _ _ (fun _ => True) (fun _ => False) rfl rfl (Kd.R_nil _ _ _ _ _) HC1.out (fun _ _ h => h) (fun _ hk => hk.elim) (fun _ _ => trivial) (Below.refl _ _) (Nat.le_refl _) (by simp; omega) ?_)
      intro va wa hRa hb _ _
      have ra : SR wa w5.heap.size va X := hRa
      have T_a := Lib.hid (T_5.out.below hb)
      have Ba := Lib.hid (B5.out.trans (hb.mono B5.out.size))
      have RA := Lib.hid ra
      have HBA := Lib.hid hb
      clear hb hRa ra HC1 hk1 T_5 B5 S_5
      have hb0 : Below wa.heap.size wa (wa.alloc (.cells ([n].map Value.string).toArray 9)) := (Below.refl _ _).alloc (Nat.le_refl _) _
      have hr := RA.out.below hb0
      have hy := texts_row wa [n] (by show 1 ≤ maxLen; unfold maxLen; decide)
      obtain ⟨Aa, ka, rfl, _, _⟩ := RA.out.reads
      have HR := Lib.hid hr
      have HY := Lib.hid hy
      have HB0 := Lib.hid hb0
      have HW := Lib.hid (hb0.mono (Nat.le_refl _))
      clear hr hy hb0
      go_wp2_with (at_builtin; refine Kd.R_append_rows Kd.string (w0 := w5) w5.heap.size rfl _ _ 22 9 (.string ⟨#[]⟩) 16 rfl Tryd.underlying22 infoS rfl (by decide) (by decide) _ X [n] (some ⟨wa.heap.size, 0, none⟩) 1 1 (fun _ => True) (fun _ => False) rfl rfl HR.out HY.out (fun _ _ h => h) (fun _ hk => hk.elim) (fun _ _ => trivial) (HBA.out.trans (HB0.out.mono HBA.out.size)) (Nat.le_trans HBA.out.size HB0.out.size) (by omega) ?_)
      intro vb wb hRb hb _ _
      have rb : SR wb w5.heap.size vb Y := by first | exact hRb | (rw [← hY]; exact hRb)
      obtain ⟨Ab, kb, rfl, htr⟩ := rb.tr (by have := HYL.out; omega)
      have TRB := Lib.hid htr
      have hbz : Below w.heap.size w wb := (B5_.out).trans (hb.mono B5_.out.size)
      have T_b := Lib.hid (T5_.out.below hb)
      have Bb := Lib.hid hbz
      clear hb hRb rb htr hbz RA HBA HR HY HB0 HW T_a Ba
      go_wp2_with fail
      refine (C7.out (by trivial) _ _ _ TRB.out T_b.out).mono ?_
      rintro e w6 ⟨rfl, hb⟩
      have T_6 := Lib.hid (T_b.out.below hb)
      have B6 := Lib.hid (Bb.out.trans (hb.mono Bb.out.size))
      clear hb TRB T_b Bb
      rw [l2, e4, e5]
      go_wp2_with fail
      refine (works_calls _ T_6.out).mono ?_
      rintro e w7 ⟨rfl, hb⟩
      have T_7 := Lib.hid (T_6.out.below hb)
      have B7 := Lib.hid (B6.out.trans (hb.mono B6.out.size))
      clear hb T_6 B6
      go_wp2
      go_ret
      exact ⟨rfl, B7.out⟩
    | true =>
      obtain rfl := L3.out (by trivial) (by trivial)
      go_wp2_with fail
      refine (C6.out (by trivial) _ T_5.out).mono ?_
      rintro e w6 ⟨rfl, hb⟩
      have T_6 := Lib.hid (T_5.out.below hb)
      have S_6 := Lib.hid (S_5.out.below hb)
      have B6 := Lib.hid (B5.out.trans (hb.mono B5.out.size))
      clear hb T_5 S_5 B5
      have B6_ := Lib.hid B6.out
      have T6_ := Lib.hid T_6.out
      obtain ⟨A1, k1, rfl, hk1, hc1⟩ := S_6.out.reads
      have HC1 := Lib.hid hc1
      clear hc1
      go_wp2_with (at_builtin; refine Kd.R_append_rows Kd.string (w0 := w6) w6.heap.size rfl _ _ 22 9 (.string ⟨#[]⟩) 16 rfl Tryd.underlying22 infoS rfl (by decide) (by decide) _ [] X A1 _ _ (fun _ => True) (fun _ => False) rfl rfl (Kd.R_nil _ _ _ _ _) HC1.out (fun _ _ h => h) (fun _ hk => hk.elim) (fun _ _ => trivial) (Below.refl _ _) (Nat.le_refl _) (by simp; omega) ?_)
      intro va wa hRa hb _ _
      have ra : SR wa w6.heap.size va X := hRa
      have T_a := Lib.hid (T_6.out.below hb)
      have Ba := Lib.hid (B6.out.trans (hb.mono B6.out.size))
      have RA := Lib.hid ra
      have HBA := Lib.hid hb
      clear hb hRa ra HC1 hk1 T_6 B6 S_6
      have hb0 : Below wa.heap.size wa (wa.alloc (.cells ([n].map Value.string).toArray 9)) := (Below.refl _ _).alloc (Nat.le_refl _) _
      have hr := RA.out.below hb0
      have hy := texts_row wa [n] (by show 1 ≤ maxLen; unfold maxLen; decide)
      obtain ⟨Aa, ka, rfl, _, _⟩ := RA.out.reads
      have HR := Lib.hid hr
      have HY := Lib.hid hy
      have HB0 := Lib.hid hb0
      have HW := Lib.hid (hb0.mono (Nat.le_refl _))
      clear hr hy hb0
      go_wp2_with (at_builtin; refine Kd.R_append_rows Kd.string (w0 := w6) w6.heap.size rfl _ _ 22 9 (.string ⟨#[]⟩) 16 rfl Tryd.underlying22 infoS rfl (by decide) (by decide) _ X [n] (some ⟨wa.heap.size, 0, none⟩) 1 1 (fun _ => True) (fun _ => False) rfl rfl HR.out HY.out (fun _ _ h => h) (fun _ hk => hk.elim) (fun _ _ => trivial) (HBA.out.trans (HB0.out.mono HBA.out.size)) (Nat.le_trans HBA.out.size HB0.out.size) (by omega) ?_)
      intro vb wb hRb hb _ _
      have rb : SR wb w6.heap.size vb Y := by first | exact hRb | (rw [← hY]; exact hRb)
      obtain ⟨Ab, kb, rfl, htr⟩ := rb.tr (by have := HYL.out; omega)
      have TRB := Lib.hid htr
      have hbz : Below w.heap.size w wb := (B6_.out).trans (hb.mono B6_.out.size)
      have T_b := Lib.hid (T6_.out.below hb)
      have Bb := Lib.hid hbz
      clear hb hRb rb htr hbz RA HBA HR HY HB0 HW T_a Ba
      go_wp2_with fail
      refine (C7.out (by trivial) _ _ _ TRB.out T_b.out).mono ?_
      rintro e w7 ⟨rfl, hb⟩
      have T_7 := Lib.hid (T_b.out.below hb)
      have B7 := Lib.hid (Bb.out.trans (hb.mono Bb.out.size))
      clear hb TRB T_b Bb
      rw [l2, e4, e5]
      go_wp2_with fail
      refine (works_calls _ T_7.out).mono ?_
      rintro e w8 ⟨rfl, hb⟩
      have T_8 := Lib.hid (T_7.out.below hb)
      have B8 := Lib.hid (B7.out.trans (hb.mono B7.out.size))
      clear hb T_7 B7
      go_wp2
      go_ret
      exact ⟨rfl, B8.out⟩
  · obtain ⟨q1, q2⟩ := L4.out h0
    have hq : (E != 0) = true := by simp [h0]
    subst q1 q2
    go_wp2_with fail
    refine (works_calls _ T_1.out).mono ?_
    rintro e w2 ⟨rfl, hb⟩
    have T_2 := Lib.hid (T_1.out.below hb)
    have B2 := Lib.hid (B1.out.trans (hb.mono B1.out.size))
    clear hb T_1 B1
    go_wp2
    go_ret
    exact ⟨rfl, B2.out⟩
end Go.Proofs.YtlmadihedejaaaaDoor.U
