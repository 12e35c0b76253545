/- The law CachePlays: whatever is done, of whatever level and size, the answers, and what is known behind them, are the document's. -/
import Derived.Test.YtbnkiefchbcfgaaCworks
set_option linter.unusedVariables false
set_option linter.unusedSimpArgs false
namespace Go.Proofs.Ytbnkiefchbcfgaa.U
open Go.RowKit Go.Proofs Go.Lib Go.Proofs.YtbnkiefchbcfgaaW.PrintWords

set_option maxHeartbeats 4000000 in
theorem CachePlays_walk (lvl : Nat) (size : Int) (A : Option Addr) (c : Nat) (l : List ActV) (w : World) (h : AR w A l) (hl : l.length ≤ 140737488351232) :
    Calls Try.prog 4 #[.int .u8 (lvl : Int), .int .i64 size, .slice A l.length c] w fun e w' => e = .returned (.bool true) ∧ Below w.heap.size w w' := by
  by_cases hbad : NBad lvl size
  · have C1 := Lib.hid (played_bad lvl size A l.length c w hbad)
    clear h hl hbad
    go_enter Try.func4, Try.ntmps4
    go_wp2_with fail
    refine (C1.out).mono ?_
    rintro e w1 ⟨rfl, hb1⟩
    go_wp2_with fail
    refine (works_calls _).mono ?_
    rintro e w2 ⟨rfl, hb2⟩
    go_wp2
    go_ret
    exact ⟨rfl, hb1.trans (hb2.mono hb1.size)⟩
  · obtain ⟨a, b, ha, rfl, hlv, hsz⟩ := NBad.not hbad (by omega)
    obtain rfl : lvl = a := by omega
    have C1 := Lib.hid (played_calls lvl b A c l w hlv hsz h (by omega))
    clear h hl hbad ha
    go_enter Try.func4, Try.ntmps4
    go_wp2_with fail
    refine (C1.out).mono ?_
    rintro e w1 ⟨C, R, rfl, s, gs, hps, hb1⟩
    go_wp2_with fail
    refine (works_calls _).mono ?_
    rintro e w2 ⟨rfl, hb2⟩
    go_wp2
    go_ret
    exact ⟨rfl, hb1.trans (hb2.mono hb1.size)⟩
end Go.Proofs.Ytbnkiefchbcfgaa.U
