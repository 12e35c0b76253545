/- The law ExtentReads: each part of a file, whatever was done, is the document's, or its error. -/
import Derived.Test.YtjochldpacgcgaaEplayed
set_option linter.unusedVariables false
set_option linter.unusedSimpArgs false
namespace Go.Proofs.Ytjochldpacgcgaa.U
open Go.RowKit Go.Proofs Go.Lib Go.Proofs.YtjochldpacgcgaaW.PrintWords

set_option maxHeartbeats 4000000 in
set_option maxRecDepth 1000000 in
theorem ExtentReads_walk (A : Option Addr) (c : Nat) (l : List ActV) (p n : Int) (w : World) (h : AR w A l) (hl : l.length ≤ 140737488351232 ∧ ∀ a ∈ l, a.bs.length ≤ 140737488351232) (hn : n ≤ 9223372036854775807) :
    Calls Try.prog 4 #[.slice A l.length c, .int .i64 p, .int .i64 n] w fun e w' => e = .returned (.bool true) ∧ Below w.heap.size w w' := by
  have C1 := Lib.hid (played_calls A c l w h (by omega) (fun a ha => by have := hl.2 a ha; omega))
  clear h hl
  go_enter Try.func4, Try.ntmps4
  go_wp2_with fail
  refine (C1.out).mono ?_
  rintro e w1 ⟨D, R, rfl, ⟨size, xs, lA, cl, B, Z, vB, vZ, ht⟩, hb1⟩
  have C2 := Lib.hid (TR ht.one p n hn)
  have HT := Lib.hid ht
  have HB := Lib.hid hb1
  clear ht hb1 C1
  go_wp2_with fail
  refine (C2.out).mono ?_
  rintro e w5 ⟨code, A5, c5, b5, rfl, hA5, _, hb5, ho5⟩
  have ht5 := HT.out.below hb5
  have hBl : B.length ≤ 65536 := by rw [ht5.rel.bl]; exact ht5.small
  have HT5 := Lib.hid ht5
  have HA5 := Lib.hid hA5
  have HB5 := Lib.hid (HB.out.trans (hb5.mono HB.out.size))
  have HO5 := Lib.hid ho5
  have C3 := Lib.hid (TRR ht5.r hBl p n hn)
  clear ht5 hA5 hb5 ho5 C2
  go_wp2_with fail
  refine (C3.out).mono ?_
  rintro e w7 ⟨code2, A7, c7, b7, rfl, hA7, hb7, ho7⟩
  obtain ⟨rfl, rfl⟩ := ROut.agree HT5.out.rel HO5.out ho7
  have hbl : b5.length ≤ 1000000000 := by
    rcases HO5.out with ⟨_, rfl⟩ | ⟨_, _, _, _, m, hm, rfl⟩
    · exact Nat.zero_le _
    · rw [bytesAt_length]
      have := HT5.out.small
      omega
  have C4 := Lib.hid (Same_eq A5 A7 c5 c7 b5 w7 (HA5.out.keep hb7) hA7 (Nat.le_trans hbl (by decide)))
  have HB7 := Lib.hid (HB5.out.trans (hb7.mono HB5.out.size))
  clear hA7 hb7 ho7 hbl C3 hBl
  go_wp2_with fail
  refine (C4.out).mono ?_
  rintro e w9 ⟨rfl, hb9⟩
  have HB9 := Lib.hid (HB7.out.trans (hb9.mono HB7.out.size))
  clear hb9 C4
  go_wp2_with fail
  refine (works_calls _).mono ?_
  rintro e w2 ⟨rfl, hb2⟩
  go_wp2
  go_ret
  exact ⟨rfl, HB9.out.trans (hb2.mono HB9.out.size)⟩
end Go.Proofs.Ytjochldpacgcgaa.U
