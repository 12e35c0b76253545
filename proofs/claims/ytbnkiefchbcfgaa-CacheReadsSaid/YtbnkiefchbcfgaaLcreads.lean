/- The law CacheReads: each part of what is known is the document's, or not known. -/
import Derived.Test.YtbnkiefchbcfgaaCworks
set_option linter.unusedVariables false
set_option linter.unusedSimpArgs false
namespace Go.Proofs.Ytbnkiefchbcfgaa.U
open Go.RowKit Go.Proofs Go.Lib Go.Proofs.YtbnkiefchbcfgaaW.PrintWords

set_option maxHeartbeats 4000000 in
set_option maxRecDepth 1000000 in
theorem CacheReads_walk (lvl : Nat) (size : Int) (A : Option Addr) (c : Nat) (l : List ActV) (p m : Int) (w : World) (h : AR w A l) (hl : l.length ≤ 140737488351232) :
    Calls Try.prog 5 #[.int .u8 (lvl : Int), .int .i64 size, .slice A l.length c, .int .i64 p, .int .i64 m] w fun e w' => e = .returned (.bool true) ∧ Below w.heap.size w w' := by
  by_cases hbad : NBad lvl size
  · have C1 := Lib.hid (played_bad lvl size A l.length c w hbad)
    clear h hl hbad
    go_enter Try.func5, Try.ntmps5
    go_wp2_with fail
    refine (C1.out).mono ?_
    rintro e w1 ⟨rfl, hb1⟩
    have HB1 := Lib.hid hb1
    clear hb1 C1
    go_wp2_with fail
    refine (Read_off _ p m w1 (.inl rfl) (fun D e => by cases e)).mono ?_
    rintro e w3 ⟨rfl, hb3⟩
    have HB3 := Lib.hid (HB1.out.trans (hb3.mono HB1.out.size))
    clear hb3
    go_wp2_with fail
    refine (works_calls _).mono ?_
    rintro e w2 ⟨rfl, hb2⟩
    go_wp2
    go_ret
    exact ⟨rfl, HB3.out.trans (hb2.mono HB3.out.size)⟩
  · obtain ⟨a, b, ha, rfl, hlv, hsz⟩ := NBad.not hbad (by omega)
    obtain rfl : lvl = a := by omega
    have C1 := Lib.hid (played_calls lvl b A c l w hlv hsz h (by omega))
    clear h hl hbad ha
    go_enter Try.func5, Try.ntmps5
    go_wp2_with fail
    refine (C1.out).mono ?_
    rintro e w1 ⟨C, R, rfl, s, gs, hps, hb1⟩
    have hfl : (stB s p m).length ≤ 1000000000 := by
      have := rdB_length s.lvl s.size s.xs p m gs.small
      show (rdB s.lvl s.size s.xs p m).length ≤ 1000000000
      omega
    have C2 := Lib.hid (PR_ hps gs p m)
    have HPR := Lib.hid (fun W (hW : Below w1.heap.size w1 W) => PRR (hps.below hW) gs p m)
    have HB := Lib.hid hb1
    obtain ⟨fb, hfb⟩ : ∃ a, stB s p m = a := ⟨_, rfl⟩
    obtain ⟨fc, hfc⟩ : ∃ a, stOk s p m = a := ⟨_, rfl⟩
    rw [hfb, hfc] at C2
    rw [hfb, hfc] at HPR
    rw [hfb] at hfl
    clear hps gs hb1 C1 hfb hfc
    go_wp2_with fail
    refine (C2.out).mono ?_
    rintro e w5 ⟨A5, c5, rfl, ha5⟩
    have C3 := Lib.hid (HPR.out w5 ha5.2.2.2)
    have HA5 := Lib.hid ha5
    clear ha5 C2
    go_wp2_with fail
    refine (C3.out).mono ?_
    rintro e w6 ⟨A6, c6, rfl, ha6, hb6⟩
    have C4 := Lib.hid (Same_eq A5 A6 c5 c6 fb w6 (HA5.out.1.ba.keep hb6) ha6 (Nat.le_trans hfl (by decide)))
    have HB6 := Lib.hid (HB.out.trans ((HA5.out.2.2.2.trans (hb6.mono HA5.out.2.2.2.size)).mono HB.out.size))
    clear ha6 hb6 C3
    go_wp2_with fail
    refine (C4.out).mono ?_
    rintro e w9 ⟨rfl, hb9⟩
    have HB9 := Lib.hid (HB6.out.trans (hb9.mono HB6.out.size))
    clear hb9 C4
    go_wp2_with fail
    refine (works_calls _).mono ?_
    rintro e w2 ⟨rfl, hb2⟩
    go_wp2
    go_ret
    exact ⟨rfl, HB9.out.trans (hb2.mono HB9.out.size)⟩
end Go.Proofs.Ytbnkiefchbcfgaa.U
