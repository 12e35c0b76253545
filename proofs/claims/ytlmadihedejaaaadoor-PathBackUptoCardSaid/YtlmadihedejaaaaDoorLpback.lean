/- The law PathBack: names come back of their path, a path of its names; for texts of at most 2^20 bytes. -/
import Derived.Test.YtlmadihedejaaaaDoorB6
set_option linter.unusedVariables false
set_option linter.unusedSimpArgs false
namespace Go.Proofs.YtlmadihedejaaaaDoor.U
open Go.RowKit Go.Proofs Go.Lib Go.Proofs.YtlmadihedejaaaaDoorW.PrintWords Go.Proofs.YtlmadihedejaaaaDoor.PR

set_option maxHeartbeats 8000000 in
set_option maxRecDepth 1000000 in
theorem PathBack_walk (s : ByteArray) (A : Option Addr) (c : Nat) (ys : List ByteArray) (w : World) (h : TR w A c ys) (hl : ys.length ≤ 1048576) (hx : ∀ x ∈ ys, x.size ≤ 1048576) (hs : s.size ≤ 1048576) (hT : Tabs w) :
    Calls Tryd.prog 11 #[.string s, .slice A ys.length c] w fun e w' => e = .returned (.bool true) ∧ Below w.heap.size w w' := by
  have c1 := fun W h => Parse_calls s W (by omega) h
  have c2 := fun W A1 k1 (h : TR W A1 k1 (parseB s)) hT => Join_calls A1 k1 (parseB s) W h (fun x hm => by have := parseB_size s x hm; omega) hT
  have c3 := fun W (h : TR W A c ys) hT => Join_calls A c ys W h (fun x hm => by have := hx x hm; omega) hT
  have hz : joinE (lst ys) = 0 → (mkB (joinS (lst ys))).size ≤ 16777216 := by
    intro h
    have h8 : ys.length ≤ 8 := by
      unfold joinE at h
      split at h
      · split at h
        · rename_i h8; unfold lst at h8; rwa [List.length_map] at h8
        · cases h
      · cases h
    have hj := jn_length (lst ys) 1048576 (fun l hl => by
      obtain ⟨x, hm, rfl⟩ := List.mem_map.1 hl
      rw [← size_eq]
      exact hx x hm)
    have e : (lst ys).length = ys.length := by unfold lst; rw [List.length_map]
    rw [e] at hj
    have h9 : ys.length * (1048576 + 1) ≤ 8 * (1048576 + 1) := Nat.mul_le_mul_right _ h8
    rw [mkB_size]
    unfold joinS
    rw [if_pos h]
    omega
  have c4 := fun (hE : joinE (lst ys) = 0) W hT => Parse_calls (mkB (joinS (lst ys))) W (hz hE) hT
  have l1 : parseE s.data.toList = 0 → joinE (lst (parseB s)) = 0 ∧ mkB (joinS (lst (parseB s))) = s := by
    intro h
    rw [lst_parse]
    exact ⟨(join_parse h).1, by rw [(join_parse h).2, mkB_of]⟩
  have l2 : joinE (lst ys) = 0 → parseE (mkB (joinS (lst ys))).data.toList = 0 ∧ parseB (mkB (joinS (lst ys))) = ys := by
    intro h
    have e : joinS (lst ys) = jn (lst ys) := by unfold joinS; rw [if_pos h]
    rw [e, mkB_list]
    refine ⟨(parse_jn h).1, ?_⟩
    unfold parseB
    rw [mkB_list, (parse_jn h).2]
    exact map_mkB ys
  have l3 : joinE (lst ys) ≠ 0 → mkB (joinS (lst ys)) = ⟨#[]⟩ := by
    intro h
    unfold joinS
    rw [if_neg h]
    rfl
  have h8 := parseB_max s
  generalize joinE (lst (parseB s)) = E3 at *
  generalize mkB (joinS (lst (parseB s))) = t at *
  generalize parseB s = X at *
  generalize parseE s.data.toList = E1 at *
  generalize joinE (lst ys) = E2 at *
  generalize hp : mkB (joinS (lst ys)) = p at *
  clear hz hp
  have HT := Lib.hid hT
  have B0 := Lib.hid (Below.refl w.heap.size w)
  have C1 := Lib.hid c1
  have C2 := Lib.hid c2
  have C3 := Lib.hid c3
  have C4 := Lib.hid c4
  have L1 := Lib.hid l1
  have L2 := Lib.hid l2
  have L3 := Lib.hid l3
  have R_0 := Lib.hid h
  clear hT c1 c2 c3 c4 l1 l2 l3 hs hx h
  go_enter Tryd.func11, Tryd.ntmps11
  go_wp2_with fail
  refine (C1.out _ HT.out).mono ?_
  rintro e w1 ⟨v1, rfl, hs, hb⟩
  have T_1 := Lib.hid (HT.out.below hb)
  have R_1 := Lib.hid (R_0.out.below hb)
  have B1 := Lib.hid (B0.out.trans (hb.mono B0.out.size))
  have S_1 := Lib.hid hs
  clear hb hs HT R_0
  by_cases h1 : E1 = 0
  · subst h1
    obtain ⟨e1, e2⟩ := L1.out (by trivial)
    subst e1 e2
    have d8 : decide ((8 : Int) < (X.length : Int)) = false := by simp; omega
    obtain ⟨A1, k1, rfl, htr⟩ := S_1.out.tr (by omega)
    have M_1 := Lib.hid htr
    clear htr S_1
    go_wp2_with fail
    refine (C2.out _ _ _ M_1.out T_1.out).mono ?_
    rintro e w2 ⟨rfl, hb⟩
    have T_2 := Lib.hid (T_1.out.below hb)
    have R_2 := Lib.hid (R_1.out.below hb)
    have M_2 := Lib.hid (M_1.out.below hb)
    have B2 := Lib.hid (B1.out.trans (hb.mono B1.out.size))
    clear hb T_1 R_1 M_1 B1
    clear M_2
    go_wp2_with fail
    refine (C3.out _ R_2.out T_2.out).mono ?_
    rintro e w3 ⟨rfl, hb⟩
    have T_3 := Lib.hid (T_2.out.below hb)
    have R_3 := Lib.hid (R_2.out.below hb)
    have B3 := Lib.hid (B2.out.trans (hb.mono B2.out.size))
    clear hb T_2 R_2 B2
    by_cases h2 : E2 = 0
    · subst h2
      obtain ⟨q1, q2⟩ := L2.out (by trivial)
      have c4 := C4.out (by trivial)
      rw [q1, q2] at c4
      have C5 := Lib.hid c4
      clear c4 q1 q2
      go_wp2_with fail
      refine (C5.out _ T_3.out).mono ?_
      rintro e w4 ⟨v2, rfl, hr, hb⟩
      have T_4 := Lib.hid (T_3.out.below hb)
      have R_4 := Lib.hid (R_3.out.below hb)
      have B4 := Lib.hid (B3.out.trans (hb.mono B3.out.size))
      clear hb T_3 R_3 B3
      obtain ⟨A2, k2, rfl, hk2, hc2⟩ := hr.reads
      have HC2 := Lib.hid hc2
      have HC3 := Lib.hid R_4.out.C
      have hk3 := R_4.out.1
      clear hc2 hr
      go_wp2_with fail
      refine (Texts_calls _ _ _ _ ys ys _ HC2.out hk2 HC3.out hk3 (by omega)).mono ?_
      rintro e w5 ⟨rfl, hb⟩
      have T_5 := Lib.hid (T_4.out.below hb)
      have R_5 := Lib.hid (R_4.out.below hb)
      have B5 := Lib.hid (B4.out.trans (hb.mono B4.out.size))
      clear hb HC2 HC3 T_4 R_4 B4
      rw [decide_eq_true (rfl : ys = ys)]
      go_wp2_with fail
      refine (works_calls _ T_5.out).mono ?_
      rintro e w6 ⟨rfl, hb⟩
      have T_6 := Lib.hid (T_5.out.below hb)
      have R_6 := Lib.hid (R_5.out.below hb)
      have B6 := Lib.hid (B5.out.trans (hb.mono B5.out.size))
      clear hb T_5 R_5 B5
      go_wp2
      go_ret
      exact ⟨rfl, B6.out⟩
    · obtain rfl := L3.out h2
      have hq : (E2 != 0) = true := by simp [h2]
      go_wp2_with fail
      refine (works_calls _ T_3.out).mono ?_
      rintro e w4 ⟨rfl, hb⟩
      have T_4 := Lib.hid (T_3.out.below hb)
      have R_4 := Lib.hid (R_3.out.below hb)
      have B4 := Lib.hid (B3.out.trans (hb.mono B3.out.size))
      clear hb T_3 R_3 B3
      go_wp2
      go_ret
      exact ⟨rfl, B4.out⟩
  · have hq1 : (E1 == 0) = false := by simp [h1]
    clear S_1
    go_wp2_with fail
    refine (C3.out _ R_1.out T_1.out).mono ?_
    rintro e w2 ⟨rfl, hb⟩
    have T_2 := Lib.hid (T_1.out.below hb)
    have R_2 := Lib.hid (R_1.out.below hb)
    have B2 := Lib.hid (B1.out.trans (hb.mono B1.out.size))
    clear hb T_1 R_1 B1
    by_cases h2 : E2 = 0
    · subst h2
      obtain ⟨q1, q2⟩ := L2.out (by trivial)
      have c4 := C4.out (by trivial)
      rw [q1, q2] at c4
      have C5 := Lib.hid c4
      clear c4 q1 q2
      go_wp2_with fail
      refine (C5.out _ T_2.out).mono ?_
      rintro e w3 ⟨v2, rfl, hr, hb⟩
      have T_3 := Lib.hid (T_2.out.below hb)
      have R_3 := Lib.hid (R_2.out.below hb)
      have B3 := Lib.hid (B2.out.trans (hb.mono B2.out.size))
      clear hb T_2 R_2 B2
      obtain ⟨A2, k2, rfl, hk2, hc2⟩ := hr.reads
      have HC2 := Lib.hid hc2
      have HC3 := Lib.hid R_3.out.C
      have hk3 := R_3.out.1
      clear hc2 hr
      go_wp2_with fail
      refine (Texts_calls _ _ _ _ ys ys _ HC2.out hk2 HC3.out hk3 (by omega)).mono ?_
      rintro e w4 ⟨rfl, hb⟩
      have T_4 := Lib.hid (T_3.out.below hb)
      have R_4 := Lib.hid (R_3.out.below hb)
      have B4 := Lib.hid (B3.out.trans (hb.mono B3.out.size))
      clear hb HC2 HC3 T_3 R_3 B3
      rw [decide_eq_true (rfl : ys = ys)]
      go_wp2_with fail
      refine (works_calls _ T_4.out).mono ?_
      rintro e w5 ⟨rfl, hb⟩
      have T_5 := Lib.hid (T_4.out.below hb)
      have R_5 := Lib.hid (R_4.out.below hb)
      have B5 := Lib.hid (B4.out.trans (hb.mono B4.out.size))
      clear hb T_4 R_4 B4
      go_wp2
      go_ret
      exact ⟨rfl, B5.out⟩
    · obtain rfl := L3.out h2
      have hq : (E2 != 0) = true := by simp [h2]
      go_wp2_with fail
      refine (works_calls _ T_2.out).mono ?_
      rintro e w3 ⟨rfl, hb⟩
      have T_3 := Lib.hid (T_2.out.below hb)
      have R_3 := Lib.hid (R_2.out.below hb)
      have B3 := Lib.hid (B2.out.trans (hb.mono B2.out.size))
      clear hb T_2 R_2 B2
      go_wp2
      go_ret
      exact ⟨rfl, B3.out⟩
end Go.Proofs.YtlmadihedejaaaaDoor.U
