-- PRINTED by print.py (a twelfth state) out of the translation. Not trusted: Lean checks it.
import Derived.Test.YtlmadihedejaaaaDoorPRx0
namespace Go.Proofs.YtlmadihedejaaaaDoor.PR
open Go.RowKit Go.Proofs.YtlmadihedejaaaaDoorW.PrintWords Go.Proofs.YtlmadihedejaaaaDoorW.PrintLast Go.Proofs.YtlmadihedejaaaaDoorW.PrintMore
attribute [local go_sem] max2_int min2_int max_two min_two max_three min_three max_four min_four   -- for this text's walks alone
set_option linter.unusedVariables false
set_option linter.unusedSimpArgs false

/-! ### refectoryref06_barred: function 32 -/
def refectoryref06_barred.l0 : Nat → Int → Int → Option (Bool)
  | 0, _, _ => none
  | k + 1, x0, x3 => if x3 < 9 then (if 0 ≤ x3 then (if x0 = (wrap64 (bt (⟨#[92, 47, 58, 42, 63, 34, 60, 62, 124]⟩ : ByteArray) x3)) then (some true) else (refectoryref06_barred.l0 k x0 (wrap64 (x3 + 1)))) else (none)) else (some false)
def refectoryref06_barred.f (k : Nat) (a0 : Int) : Option (Bool) := if a0 < 32 then (some true) else (refectoryref06_barred.l0 k a0 0)
theorem refectoryref06_barred.mono_l : ∀ k, (∀ y0 y1, LeO (refectoryref06_barred.l0 k y0 y1) (refectoryref06_barred.l0 (k + 1) y0 y1))
  | 0 => fun _ _ r h => by simp [refectoryref06_barred.l0] at h
  | k + 1 => by
    have ih0 := refectoryref06_barred.mono_l k
    · intro y0 y1
      unfold refectoryref06_barred.l0
      repeat' first
      | (with_reducible exact ih0 _ _)
      | (with_reducible exact LeO.refl _)
      | (with_reducible exact LeO.none _)
      | (with_reducible refine LeO.ite ?_ ?_)
      | (with_reducible refine LeO.bind ?_ (fun _ => ?_))
      | exact ih0 _ _
      | exact LeO.none _
      | refine LeO.ite ?_ ?_
      | refine LeO.bind ?_ (fun _ => ?_)
theorem refectoryref06_barred.mono : ∀ a0 k, LeO (refectoryref06_barred.f k a0) (refectoryref06_barred.f (k + 1) a0) := by
  intro a0 k
  have ih0 := refectoryref06_barred.mono_l k
  unfold refectoryref06_barred.f
  repeat' first
      | (with_reducible exact ih0 _ _)
      | (with_reducible exact LeO.refl _)
      | (with_reducible exact LeO.none _)
      | (with_reducible refine LeO.ite ?_ ?_)
      | (with_reducible refine LeO.bind ?_ (fun _ => ?_))
      | exact ih0 _ _
      | exact LeO.none _
      | refine LeO.ite ?_ ?_
      | refine LeO.bind ?_ (fun _ => ?_)
set_option maxHeartbeats 8000000 in
set_option maxRecDepth 100000 in
theorem refectoryref06_barred.calls (k : Nat) (a0 : Int) (r : Bool) (w : World) (h : refectoryref06_barred.f k a0 = some r) :
    Calls Tryd.prog 32 #[.int .i64 a0] w fun e w' => e = .returned (.bool r) ∧ Drawn0 w w' := by
  have H : (if a0 < 32 then (some true) else (refectoryref06_barred.l0 k a0 0)) = some r := h
  clear h
  by_cases c2 : a0 < 32
  · rw [if_pos c2] at H
    have c2b0 : decide (a0 < 32) = true := decide_eq_true c2
    clear c2
    obtain rfl := Option.some.inj H
    go_enter Tryd.func32, Tryd.ntmps32
    go_wp2
    go_ret
    exact ⟨by first | rfl | (simp; done) | (simp [*]; done), by repeat (first | exact Drawn0.refl _ | apply Drawn0.step)⟩
  · rw [if_neg c2] at H
    have c2b0 : decide (a0 < 32) = false := decide_eq_false c2
    clear c2
    have H' := Aside0.mk H
    clear H
    go_enter Tryd.func32, Tryd.ntmps32
    go_wp2
    go_loopg [3] k (fun kq v3 w' => ∃ (x3_1 : Int), v3 = .int .i64 x3_1 ∧ Aside0 (refectoryref06_barred.l0 kq a0 x3_1 = some r) ∧ Aside0 (kq ≤ k) ∧ Drawn0 w w')
    case atStart => exact ⟨(0), (by first | rfl | (simp; done) | (simp [*]; done)), H', ⟨Nat.le_refl _⟩, by repeat (first | exact Drawn0.refl _ | apply Drawn0.step)⟩
    case round =>
      clear H'
      try clear c2
      try clear c2b0
      try clear p2
      obtain ⟨x3_1, rfl, HA, HK1, ⟨m1, rfl⟩⟩ := hrel
      cases gk with
      | zero => exact absurd HA.out (by simp [refectoryref06_barred.l0])
      | succ k1 =>
        have H := HA.out
        clear HA
        simp only [refectoryref06_barred.l0] at H
        by_cases c3 : x3_1 < 9
        · rw [if_pos c3] at H
          have c3b0 : decide (x3_1 < 9) = true := decide_eq_true c3
          clear c3
          by_cases c4 : 0 ≤ x3_1
          · rw [if_pos c4] at H
            have c4b0 : decide (0 ≤ x3_1) = true := decide_eq_true c4
            clear c4
            by_cases c6 : a0 = (wrap64 (bt (⟨#[92, 47, 58, 42, 63, 34, 60, 62, 124]⟩ : ByteArray) x3_1))
            · rw [if_pos c6] at H
              have c6b0 : (a0 == (wrap64 (bt (⟨#[92, 47, 58, 42, 63, 34, 60, 62, 124]⟩ : ByteArray) x3_1))) = true := beq_iff_eq.mpr c6
              have c6b1 : (a0 != (wrap64 (bt (⟨#[92, 47, 58, 42, 63, 34, 60, 62, 124]⟩ : ByteArray) x3_1))) = false := bne_eq_false_iff_eq.mpr c6
              clear c6
              obtain rfl := Option.some.inj H
              have p5 : 0 ≤ (x3_1 : Int) := of_decide_eq_true (by first | (with_reducible assumption) | assumption)
              have q5 : x3_1 < (9 : Int) := of_decide_eq_true (by first | (with_reducible assumption) | assumption)
              have hx5 := bt_at (⟨#[92, 47, 58, 42, 63, 34, 60, 62, 124]⟩ : ByteArray) x3_1
              replace p5 := eq_true p5
              replace q5 := eq_true q5
              go_wp2
              go_ret
              exact ⟨by first | rfl | (simp; done) | (simp [*]; done), by repeat (first | exact Drawn0.refl _ | apply Drawn0.step)⟩
            · rw [if_neg c6] at H
              have c6b0 : (a0 == (wrap64 (bt (⟨#[92, 47, 58, 42, 63, 34, 60, 62, 124]⟩ : ByteArray) x3_1))) = false := beq_eq_false_iff_ne.mpr c6
              have c6b1 : (a0 != (wrap64 (bt (⟨#[92, 47, 58, 42, 63, 34, 60, 62, 124]⟩ : ByteArray) x3_1))) = true := bne_iff_ne.mpr c6
              have H' := Aside0.mk H
              clear H
              have p5 : 0 ≤ (x3_1 : Int) := of_decide_eq_true (by first | (with_reducible assumption) | assumption)
              have q5 : x3_1 < (9 : Int) := of_decide_eq_true (by first | (with_reducible assumption) | assumption)
              have hx5 := bt_at (⟨#[92, 47, 58, 42, 63, 34, 60, 62, 124]⟩ : ByteArray) x3_1
              replace p5 := eq_true p5
              replace q5 := eq_true q5
              go_wp2
              go_roundg k1
              case measure => have := HK1.out; omega
              case rel => exact ⟨(wrap64 (x3_1 + 1)), (by first | rfl | (simp; done) | (simp [*]; done)), H', ⟨by have := HK1.out; omega⟩, by repeat (first | exact Drawn0.refl _ | apply Drawn0.step)⟩
          · rw [if_neg c4] at H
            exact absurd H (by simp)
        · rw [if_neg c3] at H
          have c3b0 : decide (x3_1 < 9) = false := decide_eq_false c3
          clear c3
          obtain rfl := Option.some.inj H
          go_wp2
          go_ret
          exact ⟨by first | rfl | (simp; done) | (simp [*]; done), by repeat (first | exact Drawn0.refl _ | apply Drawn0.step)⟩

end Go.Proofs.YtlmadihedejaaaaDoor.PR
