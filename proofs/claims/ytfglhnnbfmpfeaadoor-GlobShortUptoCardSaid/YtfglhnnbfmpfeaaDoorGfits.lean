/- glob.Fits: a pattern is held against a text. -/
import Derived.Test.YtfglhnnbfmpfeaaDoorGasked
import Derived.Test.YtfglhnnbfmpfeaaDoorGgreedy
import Derived.Deep.QuietTactic
import Derived.BigQuiet
set_option linter.unusedVariables false
set_option linter.unusedSimpArgs false
namespace Go.Proofs.YtfglhnnbfmpfeaaDoor.U
open Go.RowKit Go.Proofs Go.Lib Go.Proofs.YtfglhnnbfmpfeaaDoorW.PrintWords

/-- A row of letters that is read, in a block below N. -/
def Row32 (w : World) (N : Nat) (v : Value) (xs : List Int) : Prop :=
  ∃ A c, v = .slice A xs.length c ∧ xs.length ≤ c ∧ (0 < xs.length → ∃ g, A = some ⟨g, 0, none⟩ ∧ g < N ∧ ∀ j, j < xs.length → w.cell? ⟨g, j, none⟩ = some (.int .i32 (xs.getD j 0)))
theorem Row32.of_R {w : World} {e base : Nat} {v : Value} {xs : List Int} (h : Kd.R (Kd.int .i32) e w base (fun _ => True) v xs) : Row32 w w.heap.size v xs := by
  obtain ⟨A, c, h1, h2, h3⟩ := open_row h
  refine ⟨A, c, h1, h2, fun h0 => ?_⟩
  obtain ⟨g, e, _, hg, hc⟩ := h3 h0
  exact ⟨g, e, hg, hc⟩
theorem Row32.kept {w w' : World} {N : Nat} {v : Value} {xs : List Int} (h : Row32 w N v xs) (hk : ∀ k, k < N → w'.heap[k]? = w.heap[k]?) : Row32 w' N v xs := by
  obtain ⟨A, c, h1, h2, h3⟩ := h
  refine ⟨A, c, h1, h2, fun h0 => ?_⟩
  obtain ⟨g, e, hg, hc⟩ := h3 h0
  exact ⟨g, e, hg, fun j hj => (World.cell?_of_block (a := ⟨g, j, none⟩) (hk g hg)).trans (hc j hj)⟩

/-- What lies in memory while a pattern is held against a text: the two rows, and at which letter of the pattern one is. -/
def FM (w : World) (N : Nat) (vP vT : Value) (P T : List Int) (i : Nat) : Prop :=
  w.heap[N]? = some (.cells #[vP] 37 (0, 0)) ∧ w.heap[N + 1]? = some (.cells #[vT] 37 (0, 0)) ∧ w.heap[N + 1 + 1]? = some (.cells #[.int .i64 (i : Int)] 3 (0, 0)) ∧ Row32 w N vP P ∧ Row32 w N vT T
def oneB (P T : List Int) (i at' : Nat) : Bool := decide (i < P.length) && (decide (P.getD i 0 ≠ 42) && okc (P.getD i 0) (T.getD at' 0))

set_option maxHeartbeats 8000000 in
set_option maxRecDepth 1000000 in
theorem one_calls (w : World) (N : Nat) (vP vT : Value) (P T : List Int) (i at' : Nat) (h : FM w N vP vT P T i) (hi : i ≤ P.length) (ha : at' < T.length) (hP : P.length ≤ 64) (hT : T.length ≤ 256) :
    Calls Tryd.prog 23 #[.int .i64 at', .pointer (some ⟨N + 1 + 1, 0, none⟩), .pointer (some ⟨N, 0, none⟩), .pointer (some ⟨N + 1, 0, none⟩)] w fun e w' => e = .returned (.bool (oneB P T i at')) ∧ ∃ q, w' = w.drewN q := by
  obtain ⟨h1, h2, h3, ⟨A1, cp1, rfl, hl1, hr1⟩, ⟨A2, cp2, rfl, hl2, hr2⟩⟩ := h
  have c1 : w.cell? ⟨N, 0, none⟩ = some (.slice A1 P.length cp1) := by rw [Lib.cell_of_heap h1]; rfl
  have c2 : w.cell? ⟨N + 1, 0, none⟩ = some (.slice A2 T.length cp2) := by rw [Lib.cell_of_heap h2]; rfl
  have c3 : w.cell? ⟨N + 1 + 1, 0, none⟩ = some (.int .i64 (i : Int)) := by rw [Lib.cell_of_heap h3]; rfl
  obtain ⟨g2, rfl, _, k2⟩ := hr2 (by omega)
  have x2 := k2 at' ha
  unfold oneB okc
  generalize T.getD at' 0 = tt at *
  clear h1 h2 h3 hr2 k2
  by_cases hip : i < P.length
  · obtain ⟨g1, rfl, _, k1⟩ := hr1 (by omega)
    have x1 := k1 i hip
    generalize P.getD i 0 = pp at *
    have d0 : decide ((i : Int) < (P.length : Int)) = true := by simp; omega
    rw [decide_eq_true hip, Bool.true_and]
    generalize P.length = m at *
    generalize T.length = n at *
    clear hr1 k1
    by_cases h42 : pp = 42
    · subst h42
      go_enter Tryd.func23, Tryd.ntmps23
      go_wp2
      repeat (go_quiet (fail); try go_wp2)
      go_ret
      exact ⟨rfl, _, rfl⟩
    · have d1 : (pp == 42) = false := by simp [h42]
      rw [decide_eq_true h42, Bool.true_and]
      by_cases h63 : pp = 63
      · subst h63
        go_enter Tryd.func23, Tryd.ntmps23
        go_wp2
        repeat (go_quiet (fail); try go_wp2)
        go_ret
        exact ⟨rfl, _, rfl⟩
      · have d2 : (pp == 63) = false := by simp [h63]
        rw [decide_eq_false h63, Bool.false_or]
        go_enter Tryd.func23, Tryd.ntmps23
        go_wp2
        repeat (go_quiet (fail); try go_wp2)
        go_ret
        exact ⟨by simp [BEq.beq]; intro _; exact h42, _, rfl⟩
  · have d0 : decide ((i : Int) < (P.length : Int)) = false := by simp; omega
    rw [decide_eq_false hip, Bool.false_and]
    generalize P.length = m at *
    generalize T.length = n at *
    go_enter Tryd.func23, Tryd.ntmps23
    go_wp2
    repeat (go_quiet (fail); try go_wp2)
    go_ret
    exact ⟨rfl, _, rfl⟩
end Go.Proofs.YtfglhnnbfmpfeaaDoor.U
