/- slices.Insert; slices.Replace of nothing by one piece. -/
import Derived.Test.YtjochldpacgcgaaEinsert
set_option linter.unusedVariables false
set_option linter.unusedSimpArgs false
namespace Go.Proofs.Ytjochldpacgcgaa.U
open Go.RowKit Go.Proofs Go.Lib Go.Proofs.YtjochldpacgcgaaW.PrintWords

theorem Insert_calls (v : Value) (n i : Nat) (xs : List Value) (V : Nat) (a b : Value) (w : World) (h : RowAt w v n xs) (hV : w.heap[V]? = some (.cells #[a, b] 41 (0, 0))) (hVL : v.ownBlock ≠ some V) (ha : a.oneCell' = true) (hb' : b.oneCell' = true) (hn : n ≤ 1000000) (hi : i ≤ n) (h1 : ∀ u ∈ xs, u.oneCell' = true) :
    Calls Try.prog 37 #[v, .int .i64 i, .slice (some ⟨V, 0, none⟩) 1 1] w fun e w' => ∃ v', e = .returned v' ∧ RowAt w' v' (n + 1) (xs.take (i * 2) ++ [a, b] ++ xs.drop (i * 2)) ∧ w.grownBy w' v.ownBlock ∧ SameOrNew w v v' := by
  rcases Nat.lt_or_ge i n with hlt | hge
  · rcases h.2 with ⟨_, h0⟩ | ⟨L, c, sp, rfl, hL, hnc, hc⟩
    · omega
    · have hVL2 : V ≠ L := fun e => hVL (by rw [e]; rfl)
      by_cases hr : n + 1 ≤ c
      · refine (Insert_room L n c i xs sp V a b w hL h.1 hr hc hV hVL2 ha hb' hn hlt h1).mono ?_
        rintro e w' ⟨rfl, r1, r2⟩
        exact ⟨_, rfl, r1, r2, fun k hk => .inl hk⟩
      · refine (Insert_grow L n c i xs sp V a b w hL h.1 hnc (by omega) hV ha hb' hn hlt h1).mono ?_
        rintro e w' ⟨c', rfl, r1, r2⟩
        refine ⟨_, rfl, r1, ⟨r2.os, r2.tape, r2.output, r2.size, fun k hk _ => r2.block k hk (by simp)⟩, fun k hk => .inr ?_⟩
        simp only [Value.ownBlock, Option.some.injEq] at hk
        omega
  · obtain rfl : i = n := by omega
    rw [List.take_of_length_le (by rw [h.1]; omega), List.drop_eq_nil_of_le (by rw [h.1]; omega), List.append_nil]
    exact Insert_last v i xs V a b w h hV ha hb' hn h1
set_option maxHeartbeats 4000000 in
set_option maxRecDepth 1000000 in
theorem Replace_none (v : Value) (n i : Nat) (xs : List Value) (V : Nat) (a b : Value) (w : World) (h : RowAt w v n xs) (hV : w.heap[V]? = some (.cells #[a, b] 41 (0, 0))) (hVL : v.ownBlock ≠ some V) (ha : a.oneCell' = true) (hb' : b.oneCell' = true) (hn : n ≤ 1000000) (hi : i ≤ n) (h1 : ∀ u ∈ xs, u.oneCell' = true) :
    Calls Try.prog 32 #[v, .int .i64 i, .int .i64 i, .slice (some ⟨V, 0, none⟩) 1 1] w fun e w' => ∃ v', e = .returned v' ∧ RowAt w' v' (n + 1) (xs.take (i * 2) ++ [a, b] ++ xs.drop (i * 2)) ∧ w.grownBy w' v.ownBlock ∧ SameOrNew w v v' := by
  have cI := Insert_calls v n i xs V a b w h hV hVL ha hb' hn hi h1
  have hsl : ∃ A c, v = .slice A n c ∧ (A = none → c = 0) ∧ n ≤ c := by
    rcases h.2 with ⟨rfl, h0⟩ | ⟨g, cap, cur, rfl, _, hc, _⟩
    · exact ⟨none, 0, by rw [h0], fun _ => rfl, by omega⟩
    · exact ⟨_, cap, rfl, fun h => (by cases h), hc⟩
  obtain ⟨A, c, rfl, hAc, hnc⟩ := hsl
  have d3 : (i : Int) ≤ (c : Int) := by omega
  have CI := Lib.hid cI
  clear cI h hV hVL h1
  by_cases hci : c = i
  · obtain rfl : n = i := by omega
    subst hci
    clear d3 hnc hi
    have d3 : (c : Int) ≤ (c : Int) := by omega
    go_enter Try.func32, Try.ntmps32
    go_wp2_with fail
    refine (CI.out).mono ?_
    rintro e w2 ⟨v', rfl, ho⟩
    go_wp2
    go_ret
    cases A <;> exact ⟨_, rfl, ho⟩
  · have hci2 : ¬ i = c := fun h => hci h.symm
    have d1 : (i : Int) ≤ (n : Int) := by omega
    clear hnc hi
    go_enter Try.func32, Try.ntmps32
    go_wp2_with fail
    refine (CI.out).mono ?_
    rintro e w2 ⟨v', rfl, ho⟩
    go_wp2
    go_ret
    cases A <;> exact ⟨_, rfl, ho⟩
end Go.Proofs.Ytjochldpacgcgaa.U
