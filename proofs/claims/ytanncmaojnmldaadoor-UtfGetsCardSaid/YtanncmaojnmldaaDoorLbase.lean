/- Bytes that are read, whether they are the same, and the document's own examples of utf. -/
import Derived.Test.YtanncmaojnmldaaDoorRputs
import Derived.Test.YtanncmaojnmldaaDoorRget
import Derived.Test.YtanncmaojnmldaaDoorUorder
set_option linter.unusedVariables false
set_option linter.unusedSimpArgs false
namespace Go.Proofs.YtanncmaojnmldaaDoor.U
open Go.RowKit Go.Proofs Go.Lib Go.Proofs.YtanncmaojnmldaaDoorW.PrintWords Go.Proofs.YtanncmaojnmldaaDoor.PR

/-- A slice of bytes that is read. -/
def Bv (w : World) (v : Value) (xs : List Int) : Prop := ∃ A c, v = .slice A xs.length c ∧ xs.length ≤ c ∧ (Kd.int .u8).C w A xs.length xs
theorem Bv.below {w w' : World} {v : Value} {xs : List Int} (h : Bv w v xs) (hb : Below w.heap.size w w') : Bv w' v xs := by
  obtain ⟨A, c, e, hl, hC⟩ := h
  exact ⟨A, c, e, hl, Kd.C_below hC hb⟩
theorem Bv.of_R {w : World} {e base : Nat} {v : Value} {xs : List Int} (h : Kd.R (Kd.int .u8) e w base (fun _ => True) v xs) : Bv w v xs := by
  obtain ⟨A, c, he, hl, hC⟩ := Kd.R_reads h
  exact ⟨A, c, he, hl, hC⟩
theorem Bv.nil (w : World) : Bv w (.slice none 0 0) [] := ⟨none, 0, rfl, Nat.le_refl _, Kd.C_nil _ _⟩
theorem Same_calls {v u : Value} {xs ys : List Int} {w : World} (h0 : Bv w v xs) (h1 : Bv w u ys) (hn : xs.length ≤ 140737488355328) :
    Calls Tryd.prog 14 #[v, u] w fun e w' => e = .returned (.bool (decide (xs = ys))) ∧ Below w.heap.size w w' := by
  obtain ⟨A, c, rfl, hl, hC⟩ := h0
  obtain ⟨A', c', rfl, hl', hC'⟩ := h1
  refine (refectoryref00_Same.calls (xs.length + 1) A c xs A' c' ys _ w hC hl hC' hl' (Same_eq xs ys hn _ (Nat.le_refl _))).mono ?_
  rintro e w' ⟨rfl, hd⟩
  exact ⟨rfl, hd.below⟩
theorem Rd.of_R {w : World} {e base : Nat} {v : Value} {xs : List Int} (h : Kd.R (Kd.int .u8) e w base (fun _ => True) v xs) (hb : ∀ x ∈ xs, 0 ≤ x ∧ x ≤ 255) : ∃ A c, v = .slice A xs.length c ∧ Rd w A c xs := by
  have ho := Kd.own_of_R h
  obtain ⟨A, c, rfl, hl, hA⟩ := open_row h
  refine ⟨A, c, rfl, hl, ?_, hb, fun h0 => ?_⟩
  · rcases ho.2 with ⟨h1, _⟩ | ⟨g, cap, cur, h1, _, _, _, h2, _⟩
    · injection h1 with _ _ h1
      omega
    · injection h1 with _ _ h1
      simp only [maxLen] at h2
      omega
  · obtain ⟨g, e1, _, hg, hc⟩ := hA h0
    exact ⟨g, 0, e1, hg, fun j hj => by rw [Nat.zero_add]; exact hc j hj⟩
/-- A literal's row. -/
theorem lit_R (w : World) (xs : List Int) (n : Nat) (arr : Array Value) (ha : arr = (nums .u8 xs).toArray) (hn : xs.length = n) (hs : n ≤ 1000) :
    Kd.R (Kd.int .u8) 5 (w.alloc (.cells arr 5)) w.heap.size (fun _ => True) (.slice (some ⟨w.heap.size, 0, none⟩) n n) xs := by
  subst hn
  subst ha
  refine Kd.R_of_own ⟨by simp [encs], .inr ⟨w.heap.size, xs.length, (nums .u8 xs).toArray, rfl, Nat.le_refl _, heap_alloc_new w _, Nat.le_refl _, by unfold maxLen; omega, by simp [nums], ?_⟩⟩ (fun _ _ => trivial)
  simp only [Nat.mul_one]
  rw [List.take_of_length_le (by simp [nums])]
  rfl
theorem putBytes_byte (l : List UInt8) : ∀ x ∈ putBytes l, 0 ≤ x ∧ x ≤ 255 := by
  intro x hx
  unfold putBytes at hx
  split at hx
  · rename_i hv
    unfold ubytes at hx
    obtain ⟨u, hu, hx⟩ := List.mem_flatMap.1 hx
    have hul : u < 65536 := by
      unfold units at hu
      obtain ⟨n, hn, hu⟩ := List.mem_flatMap.1 hu
      have := letters_small l hv n hn
      unfold unit at hu
      split at hu
      · simp at hu; omega
      · simp at hu; omega
    simp at hx
    omega
  · simp at hx
theorem putBytes_len (l : List UInt8) : (putBytes l).length ≤ 4 * l.length := by
  unfold putBytes
  split
  · rw [ubytes_len]
    have := units_len l
    omega
  · simp

theorem ex_put : putBytes [97, 195, 169] = [97, 0, 233, 0] ∧ errOf [97, 195, 169] = 0 := by decide +kernel
theorem ex_get : getText [72, 216] = [] ∧ getErr [72, 216] = 5 := by decide +kernel
theorem ex_alike : alikeB [97, 98] [65, 66] = true := by decide +kernel
theorem ex_ahead : aheadB [97] [66] = true := by decide +kernel
theorem ex_fold : fold [65, 98, 195, 137] = [97, 98, 195, 137] := by decide +kernel

set_option maxHeartbeats 4000000 in
set_option maxRecDepth 1000000 in
theorem works_calls (w : World) (hT : Tabs w) :
    Calls Tryd.prog 15 #[] w fun e w' => e = .returned (.bool true) ∧ Below w.heap.size w w' := by
  have c1 := Put_calls ⟨#[97, 195, 169]⟩ w (by decide) hT
  have c2 := fun W => Alike_calls ⟨#[97, 98]⟩ ⟨#[65, 66]⟩ W (by decide) (by decide)
  have c3 := fun W => Ahead_calls ⟨#[97]⟩ ⟨#[66]⟩ W (by decide) (by decide)
  have c4 := fun W => Fold_calls ⟨#[65, 98, 195, 137]⟩ W (by decide)
  rw [show (⟨#[97, 195, 169]⟩ : ByteArray).data.toList = [97, 195, 169] from rfl, ex_put.1, ex_put.2] at c1
  have C1 := Lib.hid c1
  have C2 : ∀ W, Calls Tryd.prog 20 #[.string ⟨#[97, 98]⟩, .string ⟨#[65, 66]⟩] W fun e w' => e = .returned (.bool true) ∧ Below W.heap.size W w' := fun W => by
    have := c2 W
    rw [show (⟨#[97, 98]⟩ : ByteArray).data.toList = [97, 98] from rfl, show (⟨#[65, 66]⟩ : ByteArray).data.toList = [65, 66] from rfl, ex_alike] at this
    exact this
  have C3 : ∀ W, Calls Tryd.prog 19 #[.string ⟨#[97]⟩, .string ⟨#[66]⟩] W fun e w' => e = .returned (.bool true) ∧ Below W.heap.size W w' := fun W => by
    have := c3 W
    rw [show (⟨#[97]⟩ : ByteArray).data.toList = [97] from rfl, show (⟨#[66]⟩ : ByteArray).data.toList = [66] from rfl, ex_ahead] at this
    exact this
  have C4 : ∀ W, Calls Tryd.prog 18 #[.string ⟨#[65, 98, 195, 137]⟩] W fun e w' => e = .returned (.string ⟨#[97, 98, 195, 137]⟩) ∧ Below W.heap.size W w' := fun W => by
    have := c4 W
    rw [show (⟨#[65, 98, 195, 137]⟩ : ByteArray).data.toList = [65, 98, 195, 137] from rfl, ex_fold] at this
    exact this
  have D2 := Lib.hid C2
  have D3 := Lib.hid C3
  have D4 := Lib.hid C4
  clear c1 c2 c3 c4 C2 C3 C4 hT
  go_enter Tryd.func15, Tryd.ntmps15
  go_wp2_with (go_at_call 10; refine (C1.out).mono ?_)
  rintro e w1 ⟨v1, rfl, hR1, hb1⟩
  have hv1 := Bv.of_R hR1
  have HV1 := Lib.hid hv1
  clear hv1 hR1
  go_wp2_with fail
  have hl := lit_R w1 [72, 216] 2 _ rfl rfl (by decide)
  obtain ⟨A, c, e1, hRd⟩ := Rd.of_R hl (by decide)
  injection e1 with e1 _ e2
  subst e1 e2
  have cG := Get_calls (some ⟨w1.heap.size, 0, none⟩) 2 [72, 216] _ hRd (by decide)
  have CG := Lib.hid cG
  have HA := Lib.hid ((Below.refl w1.heap.size w1).alloc (Nat.le_refl _) (.cells #[Value.int .u8 72, Value.int .u8 216] 5))
  clear hl hRd cG
  refine (CG.out).mono ?_
  rintro e w2 ⟨he, hb2⟩
  rw [ex_get.1, ex_get.2] at he
  subst he
  have HV2 := Lib.hid ((HV1.out.below HA.out).below hb2)
  have HB2 := Lib.hid ((hb1.trans (HA.out.mono hb1.size)).trans (hb2.mono (by have := hb1.size; simp; omega)))
  clear hb1 hb2
  go_wp2_with fail
  have hl := lit_R w2 [97, 0, 233, 0] 4 _ rfl rfl (by decide)
  have hs := Same_calls (HV2.out.below ((Below.refl w2.heap.size w2).alloc (Nat.le_refl _) (.cells #[Value.int .u8 97, Value.int .u8 0, Value.int .u8 233, Value.int .u8 0] 5))) (Bv.of_R hl) (by decide)
  have HA4 := Lib.hid ((Below.refl w2.heap.size w2).alloc (Nat.le_refl _) (.cells #[Value.int .u8 97, Value.int .u8 0, Value.int .u8 233, Value.int .u8 0] 5))
  rw [show decide (([97, 0, 233, 0] : List Int) = [97, 0, 233, 0]) = true from by decide] at hs
  have HS := Lib.hid hs
  clear hl hs
  refine (HS.out).mono ?_
  rintro e w3 ⟨rfl, hb3⟩
  have HB3 := Lib.hid ((HB2.out.trans (HA4.out.mono HB2.out.size)).trans (hb3.mono (by have := HB2.out.size; simp; omega)))
  clear hb3
  go_wp2_with fail
  refine (D2.out _).mono ?_
  rintro e w4 ⟨rfl, hb4⟩
  have HB4 := Lib.hid (HB3.out.trans (hb4.mono HB3.out.size))
  clear hb4
  go_wp2_with fail
  refine (D3.out _).mono ?_
  rintro e w5 ⟨rfl, hb5⟩
  have HB5 := Lib.hid (HB4.out.trans (hb5.mono HB4.out.size))
  clear hb5
  go_wp2_with fail
  refine (D4.out _).mono ?_
  rintro e w6 ⟨rfl, hb6⟩
  have HB6 := Lib.hid (HB5.out.trans (hb6.mono HB5.out.size))
  clear hb6
  go_wp2
  go_ret
  exact ⟨rfl, HB6.out⟩
end Go.Proofs.YtanncmaojnmldaaDoor.U
