/- The law GlobJoins: patterns put together; for texts of at most 2^20 bytes. -/
import Derived.Test.YtfglhnnbfmpfeaaDoorGlaw
set_option linter.unusedVariables false
set_option linter.unusedSimpArgs false
namespace Go.Proofs.YtfglhnnbfmpfeaaDoor.U
open Go.RowKit Go.Proofs Go.Lib Go.Proofs.YtfglhnnbfmpfeaaDoorW.PrintWords Go.Proofs.YtfglhnnbfmpfeaaDoor.PR

set_option maxHeartbeats 8000000 in
set_option maxRecDepth 1000000 in
theorem GlobJoins_walk (p q s t b : ByteArray) (w : World) (hp : p.size ≤ 1048576) (hq : q.size ≤ 1048576) (hs : s.size ≤ 1048576) (ht : t.size ≤ 1048576) (hb : b.size ≤ 1048576) (hT : Tabs w) :
    Calls Tryd.prog 4 #[.string p, .string q, .string s, .string t, .string b] w fun e w' => e = .returned (.bool true) ∧ Below w.heap.size w w' := by
  have z1 : (p ++ q).size ≤ 2097152 := by rw [ByteArray.size_append]; omega
  have z2 : (s ++ b ++ t).size ≤ 3145728 := by rw [ByteArray.size_append, ByteArray.size_append]; omega
  have z3 : (s ++ t).size ≤ 2097152 := by rw [ByteArray.size_append]; omega
  have z4 : (p ++ ⟨#[42]⟩ ++ q).size ≤ 2097153 := by rw [ByteArray.size_append, ByteArray.size_append]; show p.size + 1 + q.size ≤ _; omega
  have z5 : (s ++ b).size ≤ 2097152 := by rw [ByteArray.size_append]; omega
  have z6 : (p ++ ⟨#[42]⟩).size ≤ 1048577 := by rw [ByteArray.size_append]; show p.size + 1 ≤ _; omega
  have s1 := fun W => short_calls (p ++ q) 60 W (by omega)
  have s2 := fun W => short_calls (s ++ b ++ t) 256 W (by omega)
  have s3 := fun W => short_calls p 64 W (by omega)
  have s4 := fun W => short_calls q 64 W (by omega)
  have s5 := fun W => short_calls s 256 W (by omega)
  have s6 := fun W => short_calls t 256 W (by omega)
  have s7 := fun W => short_calls b 256 W (by omega)
  have f1 := fun W h => Fits_calls p s W (by omega) (by omega) h
  have f2 := fun W h => Fits_calls q t W (by omega) (by omega) h
  have f3 := fun W h => Fits_calls (p ++ q) (s ++ t) W (by omega) (by omega) h
  have f4 := fun W h => Fits_calls (p ++ ⟨#[42]⟩ ++ q) (s ++ b ++ t) W (by omega) (by omega) h
  have d1 : (p ++ q).data.toList = p.data.toList ++ q.data.toList := by simp
  have d2 : (s ++ b ++ t).data.toList = s.data.toList ++ b.data.toList ++ t.data.toList := by simp
  have d3 : (s ++ t).data.toList = s.data.toList ++ t.data.toList := by simp
  have d4 : (p ++ ⟨#[42]⟩ ++ q).data.toList = p.data.toList ++ [42] ++ q.data.toList := by simp
  rw [d1] at s1 f3
  rw [d2] at s2 f4
  rw [d3] at f3
  rw [d4] at f4
  have law := fun h1 h2 h3 h4 h5 h6 h7 => joins_law (p := p.data.toList) (q := q.data.toList) (s := s.data.toList) (t := t.data.toList) (b := b.data.toList) h1 h2 h3 h4 h5 h6 h7
  clear d1 d2 d3 d4
  generalize shortB (p.data.toList ++ q.data.toList) 60 = r1 at *
  generalize shortB (s.data.toList ++ b.data.toList ++ t.data.toList) 256 = r2 at *
  generalize shortB p.data.toList 64 = r3 at *
  generalize shortB q.data.toList 64 = r4 at *
  generalize shortB s.data.toList 256 = r5 at *
  generalize shortB t.data.toList 256 = r6 at *
  generalize shortB b.data.toList 256 = r7 at *
  generalize fitB (p.data.toList ++ q.data.toList) (s.data.toList ++ t.data.toList) = F3 at *
  generalize fitB (p.data.toList ++ [42] ++ q.data.toList) (s.data.toList ++ b.data.toList ++ t.data.toList) = F4 at *
  generalize fitB p.data.toList s.data.toList = F1 at *
  generalize fitB q.data.toList t.data.toList = F2 at *
  generalize askE (p.data.toList ++ q.data.toList) (s.data.toList ++ t.data.toList) = E3 at *
  generalize askE (p.data.toList ++ [42] ++ q.data.toList) (s.data.toList ++ b.data.toList ++ t.data.toList) = E4 at *
  generalize askE p.data.toList s.data.toList = E1 at *
  generalize askE q.data.toList t.data.toList = E2 at *
  have S1 := Lib.hid s1
  have S2 := Lib.hid s2
  have S3 := Lib.hid s3
  have S4 := Lib.hid s4
  have S5 := Lib.hid s5
  have S6 := Lib.hid s6
  have S7 := Lib.hid s7
  have F1' := Lib.hid f1
  have F2' := Lib.hid f2
  have F3' := Lib.hid f3
  have F4' := Lib.hid f4
  have LAW := Lib.hid law
  have HT := Lib.hid hT
  have B0 := Lib.hid (Below.refl w.heap.size w)
  clear s1 s2 s3 s4 s5 s6 s7 f1 f2 f3 f4 law hT
  go_enter Tryd.func4, Tryd.ntmps4
  go_wp2_with fail
  refine (S1.out _).mono ?_
  rintro e w1 ⟨rfl, hb⟩
  have T_1 := Lib.hid (HT.out.below hb)
  have B1 := Lib.hid (B0.out.trans (hb.mono B0.out.size))
  clear hb HT
  cases r1 with
  | false =>
    go_wp2_with fail
    refine (works_calls _ T_1.out).mono ?_
    rintro e w2 ⟨rfl, hb⟩
    have T_2 := Lib.hid (T_1.out.below hb)
    have B2 := Lib.hid (B1.out.trans (hb.mono B1.out.size))
    clear hb T_1 B1
    go_wp2
    go_ret
    exact ⟨rfl, B2.out⟩
  | true =>
    go_wp2_with fail
    refine (S2.out _).mono ?_
    rintro e w2 ⟨rfl, hb⟩
    have T_2 := Lib.hid (T_1.out.below hb)
    have B2 := Lib.hid (B1.out.trans (hb.mono B1.out.size))
    clear hb T_1 B1
    cases r2 with
    | false =>
      go_wp2_with fail
      refine (works_calls _ T_2.out).mono ?_
      rintro e w3 ⟨rfl, hb⟩
      have T_3 := Lib.hid (T_2.out.below hb)
      have B3 := Lib.hid (B2.out.trans (hb.mono B2.out.size))
      clear hb T_2 B2
      go_wp2
      go_ret
      exact ⟨rfl, B3.out⟩
    | true =>
      go_wp2_with fail
      refine (S3.out _).mono ?_
      rintro e w3 ⟨rfl, hb⟩
      have T_3 := Lib.hid (T_2.out.below hb)
      have B3 := Lib.hid (B2.out.trans (hb.mono B2.out.size))
      clear hb T_2 B2
      cases r3 with
      | false =>
        go_wp2_with fail
        refine (works_calls _ T_3.out).mono ?_
        rintro e w4 ⟨rfl, hb⟩
        have T_4 := Lib.hid (T_3.out.below hb)
        have B4 := Lib.hid (B3.out.trans (hb.mono B3.out.size))
        clear hb T_3 B3
        go_wp2
        go_ret
        exact ⟨rfl, B4.out⟩
      | true =>
        go_wp2_with fail
        refine (S4.out _).mono ?_
        rintro e w4 ⟨rfl, hb⟩
        have T_4 := Lib.hid (T_3.out.below hb)
        have B4 := Lib.hid (B3.out.trans (hb.mono B3.out.size))
        clear hb T_3 B3
        cases r4 with
        | false =>
          go_wp2_with fail
          refine (works_calls _ T_4.out).mono ?_
          rintro e w5 ⟨rfl, hb⟩
          have T_5 := Lib.hid (T_4.out.below hb)
          have B5 := Lib.hid (B4.out.trans (hb.mono B4.out.size))
          clear hb T_4 B4
          go_wp2
          go_ret
          exact ⟨rfl, B5.out⟩
        | true =>
          go_wp2_with fail
          refine (S5.out _).mono ?_
          rintro e w5 ⟨rfl, hb⟩
          have T_5 := Lib.hid (T_4.out.below hb)
          have B5 := Lib.hid (B4.out.trans (hb.mono B4.out.size))
          clear hb T_4 B4
          cases r5 with
          | false =>
            go_wp2_with fail
            refine (works_calls _ T_5.out).mono ?_
            rintro e w6 ⟨rfl, hb⟩
            have T_6 := Lib.hid (T_5.out.below hb)
            have B6 := Lib.hid (B5.out.trans (hb.mono B5.out.size))
            clear hb T_5 B5
            go_wp2
            go_ret
            exact ⟨rfl, B6.out⟩
          | true =>
            go_wp2_with fail
            refine (S6.out _).mono ?_
            rintro e w6 ⟨rfl, hb⟩
            have T_6 := Lib.hid (T_5.out.below hb)
            have B6 := Lib.hid (B5.out.trans (hb.mono B5.out.size))
            clear hb T_5 B5
            cases r6 with
            | false =>
              go_wp2_with fail
              refine (works_calls _ T_6.out).mono ?_
              rintro e w7 ⟨rfl, hb⟩
              have T_7 := Lib.hid (T_6.out.below hb)
              have B7 := Lib.hid (B6.out.trans (hb.mono B6.out.size))
              clear hb T_6 B6
              go_wp2
              go_ret
              exact ⟨rfl, B7.out⟩
            | true =>
              go_wp2_with fail
              refine (S7.out _).mono ?_
              rintro e w7 ⟨rfl, hb⟩
              have T_7 := Lib.hid (T_6.out.below hb)
              have B7 := Lib.hid (B6.out.trans (hb.mono B6.out.size))
              clear hb T_6 B6
              cases r7 with
              | false =>
                go_wp2_with fail
                refine (works_calls _ T_7.out).mono ?_
                rintro e w8 ⟨rfl, hb⟩
                have T_8 := Lib.hid (T_7.out.below hb)
                have B8 := Lib.hid (B7.out.trans (hb.mono B7.out.size))
                clear hb T_7 B7
                go_wp2
                go_ret
                exact ⟨rfl, B8.out⟩
              | true =>
                obtain ⟨e3, e4, hl⟩ := LAW.out (by trivial) (by trivial) (by trivial) (by trivial) (by trivial) (by trivial) (by trivial)
                subst e3 e4
                have HL := Lib.hid hl
                clear hl
                go_wp2_with fail
                refine (F1'.out _ T_7.out).mono ?_
                rintro e w8 ⟨rfl, hb⟩
                have T_8 := Lib.hid (T_7.out.below hb)
                have B8 := Lib.hid (B7.out.trans (hb.mono B7.out.size))
                clear hb T_7 B7
                go_wp2_with fail
                refine (F2'.out _ T_8.out).mono ?_
                rintro e w9 ⟨rfl, hb⟩
                have T_9 := Lib.hid (T_8.out.below hb)
                have B9 := Lib.hid (B8.out.trans (hb.mono B8.out.size))
                clear hb T_8 B8
                go_wp2_with fail
                refine (F3'.out _ T_9.out).mono ?_
                rintro e w10 ⟨rfl, hb⟩
                have T_10 := Lib.hid (T_9.out.below hb)
                have B10 := Lib.hid (B9.out.trans (hb.mono B9.out.size))
                clear hb T_9 B9
                go_wp2_with fail
                refine (F4'.out _ T_10.out).mono ?_
                rintro e w11 ⟨rfl, hb⟩
                have T_11 := Lib.hid (T_10.out.below hb)
                have B11 := Lib.hid (B10.out.trans (hb.mono B10.out.size))
                clear hb T_10 B10
                cases F1 with
                | false =>
                  go_wp2_with fail
                  refine (works_calls _ T_11.out).mono ?_
                  rintro e w12 ⟨rfl, hb⟩
                  have T_12 := Lib.hid (T_11.out.below hb)
                  have B12 := Lib.hid (B11.out.trans (hb.mono B11.out.size))
                  clear hb T_11 B11
                  go_wp2
                  go_ret
                  exact ⟨rfl, B12.out⟩
                | true =>
                  cases F2 with
                  | false =>
                    go_wp2_with fail
                    refine (works_calls _ T_11.out).mono ?_
                    rintro e w12 ⟨rfl, hb⟩
                    have T_12 := Lib.hid (T_11.out.below hb)
                    have B12 := Lib.hid (B11.out.trans (hb.mono B11.out.size))
                    clear hb T_11 B11
                    go_wp2
                    go_ret
                    exact ⟨rfl, B12.out⟩
                  | true =>
                    obtain ⟨g3, g4⟩ := HL.out (by trivial) (by trivial)
                    subst g3 g4
                    go_wp2_with fail
                    refine (works_calls _ T_11.out).mono ?_
                    rintro e w12 ⟨rfl, hb⟩
                    have T_12 := Lib.hid (T_11.out.below hb)
                    have B12 := Lib.hid (B11.out.trans (hb.mono B11.out.size))
                    clear hb T_11 B11
                    go_wp2
                    go_ret
                    exact ⟨rfl, B12.out⟩
end Go.Proofs.YtfglhnnbfmpfeaaDoor.U
