/- The law CacheDown: nothing is lost by going down. -/
import Derived.Test.YtbnkiefchbcfgaaClawk
set_option linter.unusedVariables false
set_option linter.unusedSimpArgs false
namespace Go.Proofs.Ytbnkiefchbcfgaa.U
open Go.RowKit Go.Proofs Go.Lib Go.Proofs.YtbnkiefchbcfgaaW.PrintWords

set_option maxHeartbeats 8000000 in
set_option maxRecDepth 1000000 in
theorem CacheDown_bad (lvl : Nat) (size : Int) (A : Option Addr) (c k : Nat) (tl : Int) (w : World) (hbad : NBad lvl size) :
    Calls Try.prog 7 #[.int .u8 (lvl : Int), .int .i64 size, .slice A k c, .int .u8 tl] w fun e w' => e = .returned (.bool true) ∧ Below w.heap.size w w' := by
  have C1 := Lib.hid (played_bad lvl size A k c w hbad)
  clear hbad
  go_enter Try.func7, Try.ntmps7
  go_wp2_with fail
  refine (C1.out).mono ?_
  rintro e w1 ⟨rfl, hb1⟩
  have HB1 := Lib.hid hb1
  clear hb1 C1
  go_wp2_with fail
  refine (Pieces_off _ w1 (.inl rfl)).mono ?_
  rintro e w2 ⟨rfl, rfl⟩
  go_wp2_with fail
  refine (Open_off _ w2 (.inl rfl)).mono ?_
  rintro e w3 ⟨rfl, rfl⟩
  go_wp2_with fail
  refine (Level_off _ w3 (.inl rfl)).mono ?_
  rintro e w4 ⟨rfl, rfl⟩
  go_wp2_with fail
  refine (Down_off _ tl w4 (.inl rfl)).mono ?_
  rintro e w5 ⟨rfl, rfl⟩
  go_wp2_with fail
  refine (Level_off _ w5 (.inl rfl)).mono ?_
  rintro e w6 ⟨rfl, rfl⟩
  go_wp2_with fail
  refine (Open_off _ w6 (.inl rfl)).mono ?_
  rintro e w7 ⟨rfl, rfl⟩
  go_wp2_with fail
  refine (Pieces_off _ w7 (.inl rfl)).mono ?_
  rintro e w8 ⟨rfl, rfl⟩
  go_wp2_with fail
  refine (Ext_same 0 0 _ _ [] w8 (NewX.nil _ _) (NewX.nil _ _) (by simp) (fun x hx => by cases hx)).mono ?_
  rintro e w9 ⟨rfl, hb9⟩
  have HB9 := Lib.hid (HB1.out.trans (hb9.mono HB1.out.size))
  clear hb9
  go_wp2_with fail
  refine (works_calls _).mono ?_
  rintro e w10 ⟨rfl, hb10⟩
  go_wp2
  go_ret
  exact ⟨rfl, HB9.out.trans (hb10.mono HB9.out.size)⟩
set_option maxHeartbeats 8000000 in
set_option maxRecDepth 1000000 in
theorem CacheDown_walk (lvl : Nat) (size : Int) (A : Option Addr) (c : Nat) (l : List ActV) (tl : Nat) (w : World) (h : AR w A l) (hl : l.length ≤ 140737488351232) :
    Calls Try.prog 7 #[.int .u8 (lvl : Int), .int .i64 size, .slice A l.length c, .int .u8 (tl : Int)] w fun e w' => e = .returned (.bool true) ∧ Below w.heap.size w w' := by
  by_cases hbad : NBad lvl size
  · exact CacheDown_bad lvl size A c l.length tl w hbad
  · obtain ⟨a, b, ha, rfl, hlv, hsz⟩ := NBad.not hbad (by omega)
    obtain rfl : lvl = a := by omega
    have C1 := Lib.hid (played_calls lvl b A c l w hlv hsz h (by omega))
    clear h hl hbad ha
    go_enter Try.func7, Try.ntmps7
    go_wp2_with fail
    refine (C1.out).mono ?_
    rintro e w1 ⟨C, R, rfl, hp⟩
    obtain ⟨s, lA, cl, oA, oc, ha⟩ := Al.of hp
    have HA := Lib.hid ha
    clear ha hp C1
    go_wp2_with fail
    refine (LP HA.out).mono ?_
    rintro e w2 ⟨v2, rfl, hn2, hb2, ha2⟩
    have HN2 := Lib.hid hn2.toX
    have HA2 := Lib.hid ha2
    have HLT := Lib.hid HA.out.lt
    clear hn2 hb2 ha2 HA
    go_wp2_with fail
    refine (LOpen HA2.out).mono ?_
    rintro e w3 ⟨rfl, rfl⟩
    go_wp2_with fail
    refine (LLevel HA2.out).mono ?_
    rintro e w4 ⟨rfl, rfl⟩
    obtain ⟨N, h1⟩ := HA2.out.d
    have cD := TD h1 tl
    obtain ⟨on, hon⟩ : ∃ on, s.os.length = on := ⟨_, rfl⟩
    have HON := Lib.hid hon
    obtain ⟨lv, hlv2⟩ : ∃ lv, s.lvl = lv := ⟨_, rfl⟩
    have HLV := Lib.hid hlv2
    obtain ⟨code, hcode⟩ : ∃ code, (stD s tl).1 = code := ⟨_, rfl⟩
    obtain ⟨s', hs'⟩ : ∃ s', (stD s tl).2 = s' := ⟨_, rfl⟩
    have hg' := HA2.out.g.d tl
    have hst : (code = 0 ∧ ¬ lv ≤ tl ∧ ¬ (tl < 2 ∧ 0 < on) ∧ s'.lvl = tl ∧ s'.os.length = on ∧ s'.xs = if tl = 0 then [] else s.xs) ∨ (¬ code = 0 ∧ s' = s) := by
      rw [← hcode, ← hs', ← hon, ← hlv2]
      unfold stD
      by_cases q1 : s.lvl ≤ tl
      · rw [if_pos q1]
        exact .inr ⟨fun h => (by cases h), rfl⟩
      · rw [if_neg q1]
        by_cases q2 : tl < 2 ∧ 0 < s.os.length
        · rw [if_pos q2]
          exact .inr ⟨fun h => (by cases h), rfl⟩
        · rw [if_neg q2]
          exact .inl ⟨rfl, q1, q2, rfl, rfl, rfl⟩
    rw [hcode, hs'] at cD
    rw [hs'] at hg'
    have CD := Lib.hid cD
    have HG := Lib.hid hg'
    have HST := Lib.hid hst
    clear h1 cD hcode hs' hg' hst hon hlv2
    go_wp2_with fail
    simp only [HON.out, HLV.out]
    refine (CD.out).mono ?_
    rintro e w5 ⟨rfl, hs5⟩
    have hfar : NewX w5 w1.heap.size v2 s.xs := by
      obtain ⟨_, _, _, _, _, hf, _⟩ := hs5
      exact HN2.out.far (hf.far HLT.out.1 HLT.out.2.1 HLT.out.2.2)
    obtain ⟨⟨lA5, cl5, oA5, oc5, ha5⟩, _⟩ := HA2.out.step HG.out hs5
    have HA5 := Lib.hid ha5
    have HFAR := Lib.hid hfar
    have HFIT := Lib.hid HA2.out.fits
    clear hs5 ha5 hfar CD HN2 HA2 HLT HG
    rcases HST.out with ⟨rfl, q1, q2, hsl, hso, hsx⟩ | ⟨hc0, rfl⟩
    · clear HST
      have HSL := Lib.hid hsl
      have HSO := Lib.hid hso
      clear hsl hso
      have d1 : ((tl : Int) == 0) = decide (tl = 0) := by
        by_cases h0 : tl = 0
        · subst h0; rfl
        · rw [decide_eq_false h0, beq_eq_false_iff_ne]; omega
      by_cases h0 : tl = 0
      · subst h0
        have q3 : ¬ 0 < on := fun h => q2 ⟨by omega, h⟩
        have q3' : on = 0 := by omega
        subst q3'
        clear d1
        rw [if_pos rfl] at hsx
        have HSX := Lib.hid hsx
        have k8 : stOk s' 0 1 = false := by unfold stOk rdOk; rw [HSL.out]; simp
        have k9 : stB s' 0 1 = [] := by unfold stB rdB rdOk; rw [HSL.out]; simp
        have K89 := Lib.hid (And.intro k8 k9)
        clear k8 k9 hsx
        go_wp2_with fail
        refine (LLevel HA5.out).mono ?_
        rintro e w6 ⟨rfl, rfl⟩
        simp only [HSL.out]
        go_wp2_with fail
        refine (LOpen HA5.out).mono ?_
        rintro e w7 ⟨rfl, rfl⟩
        simp only [HSO.out]
        go_wp2_with fail
        refine (LRead HA5.out 0 1).mono ?_
        rintro e w8 ⟨A8, c8, rfl, ha8, hal8⟩
        rw [K89.out.1, K89.out.2]
        have HA8 := Lib.hid hal8
        clear ha8 hal8 HA5 HFAR
        go_wp2_with fail
        refine (LP HA8.out).mono ?_
        rintro e w9 ⟨v9, rfl, hn9, hb9, ha9⟩
        obtain ⟨A9, c9, rfl⟩ := hn9.toX.length
        rw [HSX.out, List.length_nil]
        have HA9 := Lib.hid ha9
        clear hn9 hb9 ha9 HA8
        have hbX : Below w9.heap.size w9 (w9.alloc (.cells #[.int .u8 1] 5)) := (Below.refl _ _).alloc (Nat.le_refl _) _
        have hX := heap_alloc_new w9 (.cells #[.int .u8 1] 5)
        obtain ⟨wx, hwx⟩ : ∃ wx, w9.alloc (.cells #[.int .u8 1] 5) = wx := ⟨_, rfl⟩
        rw [hwx] at hbX hX
        have HAX := Lib.hid (HA9.out.below hbX)
        obtain ⟨NX, hNX⟩ := HAX.out.d
        have CW := Lib.hid (Write_no 0 1 (some ⟨w9.heap.size, 0, none⟩) 1 hNX.d HAX.out.g.small (by unfold wrOk; rw [HSL.out]; simp))
        clear hbX hX hNX
        go_wp2_with fail
        refine (CW.out).mono ?_
        rintro e w10 ⟨rfl, rfl⟩
        go_wp2_with fail
        refine (works_calls _).mono ?_
        rintro e w11 ⟨rfl, hb11⟩
        go_wp2
        go_ret
        exact ⟨rfl, HAX.out.b.trans (hb11.mono HAX.out.b.size)⟩
      · have d2 : ((tl : Int) == 0) = false := by simp; omega
        clear d1
        have d3 : decide ((lv : Int) ≤ (tl : Int)) = false := by simp; omega
        rw [if_neg h0] at hsx
        have HSX := Lib.hid hsx
        clear hsx
        by_cases h2 : tl < 2
        · have d4 : decide ((tl : Int) < 2) = true := by simp; omega
          have q3' : on = 0 := by omega
          subst q3'
          go_wp2_with fail
          refine (LLevel HA5.out).mono ?_
          rintro e w6 ⟨rfl, rfl⟩
          simp only [HSL.out]
          go_wp2_with fail
          refine (LOpen HA5.out).mono ?_
          rintro e w7 ⟨rfl, rfl⟩
          simp only [HSO.out]
          go_wp2_with fail
          refine (LP HA5.out).mono ?_
          rintro e w9 ⟨v9, rfl, hn9, hb9, ha9⟩
          rw [HSX.out] at hn9
          have CE := Lib.hid (Ext_same _ _ v9 v2 s.xs w9 hn9.toX (HFAR.out.below hb9) HFIT.out.1 HFIT.out.2)
          have HA9 := Lib.hid ha9
          clear hn9 hb9 ha9 HA5 HFAR
          go_wp2_with fail
          refine (CE.out).mono ?_
          rintro e w10 ⟨rfl, hb10⟩
          have HA10 := Lib.hid (HA9.out.below hb10)
          clear hb10 CE HA9
          go_wp2_with fail
          refine (works_calls _).mono ?_
          rintro e w11 ⟨rfl, hb11⟩
          go_wp2
          go_ret
          exact ⟨rfl, HA10.out.b.trans (hb11.mono HA10.out.b.size)⟩
        · have d4 : decide ((tl : Int) < 2) = false := by simp; omega
          go_wp2_with fail
          refine (LLevel HA5.out).mono ?_
          rintro e w6 ⟨rfl, rfl⟩
          simp only [HSL.out]
          go_wp2_with fail
          refine (LOpen HA5.out).mono ?_
          rintro e w7 ⟨rfl, rfl⟩
          simp only [HSO.out]
          go_wp2_with fail
          refine (LP HA5.out).mono ?_
          rintro e w9 ⟨v9, rfl, hn9, hb9, ha9⟩
          rw [HSX.out] at hn9
          have CE := Lib.hid (Ext_same _ _ v9 v2 s.xs w9 hn9.toX (HFAR.out.below hb9) HFIT.out.1 HFIT.out.2)
          have HA9 := Lib.hid ha9
          clear hn9 hb9 ha9 HA5 HFAR
          go_wp2_with fail
          refine (CE.out).mono ?_
          rintro e w10 ⟨rfl, hb10⟩
          have HA10 := Lib.hid (HA9.out.below hb10)
          clear hb10 CE HA9
          go_wp2_with fail
          refine (works_calls _).mono ?_
          rintro e w11 ⟨rfl, hb11⟩
          go_wp2
          go_ret
          exact ⟨rfl, HA10.out.b.trans (hb11.mono HA10.out.b.size)⟩
    · clear HST
      have d1 : (code != 0) = true := by simpa using hc0
      go_wp2_with fail
      refine (LLevel HA5.out).mono ?_
      rintro e w6 ⟨rfl, rfl⟩
      simp only [HLV.out]
      go_wp2_with fail
      refine (LOpen HA5.out).mono ?_
      rintro e w7 ⟨rfl, rfl⟩
      simp only [HON.out]
      go_wp2_with fail
      refine (LP HA5.out).mono ?_
      rintro e w9 ⟨v9, rfl, hn9, hb9, ha9⟩
      have CE := Lib.hid (Ext_same _ _ v9 v2 s'.xs w9 hn9.toX (HFAR.out.below hb9) HFIT.out.1 HFIT.out.2)
      have HA9 := Lib.hid ha9
      clear hn9 hb9 ha9 HA5 HFAR
      go_wp2_with fail
      refine (CE.out).mono ?_
      rintro e w10 ⟨rfl, hb10⟩
      have HA10 := Lib.hid (HA9.out.below hb10)
      clear hb10 CE HA9
      go_wp2_with fail
      refine (works_calls _).mono ?_
      rintro e w11 ⟨rfl, hb11⟩
      go_wp2
      go_ret
      exact ⟨rfl, HA10.out.b.trans (hb11.mono HA10.out.b.size)⟩
end Go.Proofs.Ytbnkiefchbcfgaa.U
