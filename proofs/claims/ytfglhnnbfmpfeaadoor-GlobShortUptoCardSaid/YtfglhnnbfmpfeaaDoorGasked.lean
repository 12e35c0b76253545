/- glob.asked: the letters of a pattern and of a text, folded, or an error. -/
import Derived.Test.YtfglhnnbfmpfeaaDoorUorder
import Derived.Test.YtfglhnnbfmpfeaaDoorGspec
import Derived.Laws.IdiomStrings
set_option linter.unusedVariables false
set_option linter.unusedSimpArgs false
namespace Go.Proofs.YtfglhnnbfmpfeaaDoor.U
open Go.RowKit Go.Proofs Go.Lib Go.Proofs.YtfglhnnbfmpfeaaDoorW.PrintWords

/-- '[]rune(s)' of a text: its letters. -/
theorem runes_from (s : ByteArray) : ∀ (n i : Nat) (acc : Array Value), s.size - i ≤ n → valid (s.data.toList.drop i) = true →
    Conv.runesFrom s n i acc = acc ++ (nums .i32 ((letters (s.data.toList.drop i)).map fun m : Nat => (m : Int))).toArray := by
  intro n
  induction n with
  | zero =>
    intro i acc hn hv
    rw [List.drop_eq_nil_of_le (by rw [← size_eq]; omega), letters_nil]
    simp [Conv.runesFrom, nums]
  | succ n ih =>
    intro i acc hn hv
    unfold Conv.runesFrom
    by_cases h : i < s.size
    · rw [if_pos h]
      obtain ⟨r, wd, h1, h2, h3, h4, h5⟩ := next_facts s i h
      obtain ⟨_, hv', hl⟩ := units_step h2 h5 hv
      rw [h1]
      simp only
      rw [ih (i + wd) _ (by omega) hv', hl]
      simp [nums]
    · rw [if_neg h, List.drop_eq_nil_of_le (by rw [← size_eq]; omega), letters_nil]
      simp [nums]
/-- The letters of a text, folded, as '[]rune(Fold(s))' lays them. -/
theorem runes_fold (s : ByteArray) (hv : valid s.data.toList = true) : Conv.runesFrom ⟨(fold s.data.toList).toArray⟩ (⟨(fold s.data.toList).toArray⟩ : ByteArray).size 0 #[] = (nums .i32 (fnums s.data.toList)).toArray := by
  rw [runes_from _ _ 0 #[] (by omega) (by rw [List.drop_zero]; exact (valid_fold _).trans hv)]
  rw [List.drop_zero]
  show #[] ++ (nums .i32 ((letters (fold s.data.toList)).map fun m : Nat => (m : Int))).toArray = _
  rw [letters_fold]
  unfold fnums flet
  simp
theorem convert_runes (s : ByteArray) (hv : valid s.data.toList = true) (hs : s.size ≤ 17592186044416) (W : World) :
    ∃ cap, (convert 9 37 (.string ⟨(fold s.data.toList).toArray⟩)).run Tryd.prog W = .ok (.slice (some ⟨W.heap.size, 0, none⟩) (fnums s.data.toList).length cap)
      (W.drew.alloc (.cells ((nums .i32 (fnums s.data.toList)).toArray ++ Array.replicate (cap - (fnums s.data.toList).length) (.int .i32 0)) 21)) ∧ (fnums s.data.toList).length ≤ cap ∧ cap ≤ maxLen := by
  have hr := runes_fold s hv
  have hl : (nums .i32 (fnums s.data.toList)).toArray.size = (fnums s.data.toList).length := by simp [nums]
  have hb : (fnums s.data.toList).length ≤ 17592186044416 := by have := fnums_len s.data.toList; rw [← size_eq] at this; omega
  have h := run_runes_of_string (P := Tryd.prog) W 9 37 21 ⟨(fold s.data.toList).toArray⟩ Tryd.underlying9 Tryd.underlying37 Tryd.underlying21 (by rw [hr, hl]; omega)
  rw [hr, hl] at h
  exact ⟨_, h, grownCap_ge _ _ _ _, grownCap_le_maxLen _ _ _ _ (by unfold maxLen; omega)⟩
theorem row_of_runes (xs : List Int) (W : World) (cap : Nat) (h1 : xs.length ≤ cap) (h2 : cap ≤ maxLen) :
    Kd.R (Kd.int .i32) 21 (W.alloc (.cells ((nums .i32 xs).toArray ++ Array.replicate (cap - xs.length) (.int .i32 0)) 21)) W.heap.size (fun _ => True) (.slice (some ⟨W.heap.size, 0, none⟩) xs.length cap) xs := by
  refine Kd.R_of_own ⟨by simp [encs], .inr ⟨W.heap.size, cap, _, rfl, Nat.le_refl _, heap_alloc_new W _, h1, h2, ?_, ?_⟩⟩ (fun _ _ => trivial)
  · simp [nums]; omega
  · simp only [Nat.mul_one, Array.toList_append, List.toList_toArray]
    rw [List.take_append_of_le_length (by simp [nums]), List.take_of_length_le (by simp [nums])]
    rfl

def askE (a b : List UInt8) : Int := if valid a = true ∧ valid b = true then (if 64 < (fnums a).length ∨ 256 < (fnums b).length then 3 else 0) else 5
def AskDone (a b : ByteArray) (w : World) (e : Ending) (w' : World) : Prop :=
  ∃ vP vT, e = .returned (.tuple #[vP, vT, .int .i64 (askE a.data.toList b.data.toList)]) ∧ Below w.heap.size w w' ∧ ((∃ A n c, vP = .slice A n c) ∧ ∃ A n c, vT = .slice A n c) ∧
    (askE a.data.toList b.data.toList = 0 → Kd.R (Kd.int .i32) 21 w' w.heap.size (fun _ => True) vP (fnums a.data.toList) ∧ Kd.R (Kd.int .i32) 21 w' w.heap.size (fun _ => True) vT (fnums b.data.toList))
theorem R_below {e : Nat} {w1 w2 : World} {base : Nat} {v : Value} {xs : List Int} (h : Kd.R (Kd.int .i32) e w1 base (fun _ => True) v xs) (hb : Below w1.heap.size w1 w2) : Kd.R (Kd.int .i32) e w2 base (fun _ => True) v xs := by
  have ho := Kd.own_of_R h
  refine Kd.R_of_own (own_move ho fun k hk => ?_) (fun _ _ => trivial)
  exact hb.block k (ho.lt k hk).2

theorem two_at (a b : ByteArray) : (∀ W : World, (Instr.index 61 (.agg #[.string a, .string b]) (.int .i64 0)).run Tryd.prog W = .ok (.string a) W) ∧ (∀ W : World, (Instr.index 61 (.agg #[.string a, .string b]) (.int .i64 1)).run Tryd.prog W = .ok (.string b) W) := by
  have h : Tryd.prog.underlying 61 = some (.array 2 9) := by kernel_rfl
  constructor <;> intro W <;> simp [Instr.index, run_underlying h, asIntOf, go_sem]

set_option maxHeartbeats 8000000 in
set_option maxRecDepth 1000000 in
theorem asked_calls (a b : ByteArray) (w : World) (ha : a.size ≤ 17592186044416) (hb : b.size ≤ 17592186044416) (hT : Tabs w) :
    Calls Tryd.prog 22 #[.string a, .string b] w (AskDone a b w) := by
  have c1 := fun W (h : Tabs W) => Units_calls a W (by omega) h
  have c2 := fun W (h : Tabs W) => Units_calls b W (by omega) h
  have c3 := fun W => Fold_calls a W (by omega)
  have c4 := fun W => Fold_calls b W (by omega)
  have c5 : valid a.data.toList = true → ∀ W, _ := fun h W => convert_runes a h ha W
  have c6 : valid b.data.toList = true → ∀ W, _ := fun h W => convert_runes b h hb W
  have hl1 : (fnums a.data.toList).length ≤ 17592186044416 := by have := fnums_len a.data.toList; rw [← size_eq] at this; omega
  have hl2 : (fnums b.data.toList).length ≤ 17592186044416 := by have := fnums_len b.data.toList; rw [← size_eq] at this; omega
  have hE : askE a.data.toList b.data.toList = if valid a.data.toList = true ∧ valid b.data.toList = true then (if 64 < (fnums a.data.toList).length ∨ 256 < (fnums b.data.toList).length then 3 else 0) else 5 := rfl
  unfold AskDone
  generalize askE a.data.toList b.data.toList = E at *
  unfold errOf at c1 c2
  generalize countOf a.data.toList = n1 at *
  generalize countOf b.data.toList = n2 at *
  generalize fnums a.data.toList = P at *
  generalize fnums b.data.toList = T at *
  generalize (⟨(fold a.data.toList).toArray⟩ : ByteArray) = fa at *
  generalize (⟨(fold b.data.toList).toArray⟩ : ByteArray) = fb at *
  obtain ⟨va, hva⟩ : ∃ v, valid a.data.toList = v := ⟨_, rfl⟩
  obtain ⟨vb, hvb⟩ : ∃ v, valid b.data.toList = v := ⟨_, rfl⟩
  rw [hva] at c1 c5 hE
  rw [hvb] at c2 c6 hE
  clear hva hvb
  have HT := Lib.hid hT
  have C1 := Lib.hid c1
  have C2 := Lib.hid c2
  have C3 := Lib.hid c3
  have C4 := Lib.hid c4
  have C5 := Lib.hid c5
  have C6 := Lib.hid c6
  have HE := Lib.hid hE
  obtain ⟨x0, x1⟩ := two_at a b
  clear c1 c2 c3 c4 c5 c6 hT hE ha hb
  go_enter Tryd.func22, Tryd.ntmps22
  go_wp2
  go_loopw [14] (fun i wr => Below w.heap.size w wr ∧ (i = .int .i64 0 ∨ (i = .int .i64 1 ∧ va = true) ∨ (i = .int .i64 2 ∧ va = true ∧ vb = true))) (fun i _ => 2 - (RowKit.intOf i).toNat)
  case atStart => exact ⟨Below.refl _ _, .inl rfl⟩
  case round =>
    obtain ⟨hbw, hrel⟩ := hrel
    have B0 := Lib.hid hbw
    clear hbw
    rcases hrel with rfl | ⟨rfl, rfl⟩ | ⟨rfl, rfl, rfl⟩
    · go_wp2_with fail
      refine (C1.out _ (HT.out.below B0.out)).mono ?_
      rintro e w1 ⟨rfl, hb1⟩
      have B1 := Lib.hid (B0.out.trans (hb1.mono B0.out.size))
      clear hb1
      cases va with
      | false =>
        simp only [Bool.false_eq_true, if_false]
        go_wp2
        go_ret3
        exact ⟨.slice none 0 0, .slice none 0 0, by rw [HE.out]; simp, B1.out, ⟨⟨_, _, _, rfl⟩, _, _, _, rfl⟩, fun h => by rw [HE.out] at h; simp at h⟩
      | true =>
        simp only [if_true]
        go_wp2
        go_roundw
        case rel => exact ⟨B1.out, .inr (.inl ⟨rfl, by trivial⟩)⟩
        case measure => simp [RowKit.intOf]
    · go_wp2_with fail
      refine (C2.out _ (HT.out.below B0.out)).mono ?_
      rintro e w1 ⟨rfl, hb1⟩
      have B1 := Lib.hid (B0.out.trans (hb1.mono B0.out.size))
      clear hb1
      cases vb with
      | false =>
        simp only [Bool.false_eq_true, if_false]
        go_wp2
        go_ret3
        exact ⟨.slice none 0 0, .slice none 0 0, by rw [HE.out]; simp, B1.out, ⟨⟨_, _, _, rfl⟩, _, _, _, rfl⟩, fun h => by rw [HE.out] at h; simp at h⟩
      | true =>
        simp only [if_true]
        go_wp2
        go_roundw
        case rel => exact ⟨B1.out, .inr (.inr ⟨rfl, by trivial, by trivial⟩)⟩
        case measure => simp [RowKit.intOf]
    · go_wp2_with fail
      refine (C3.out _).mono ?_
      rintro e w1 ⟨rfl, hb1⟩
      have B1 := Lib.hid (B0.out.trans (hb1.mono B0.out.size))
      clear hb1
      obtain ⟨cap1, cv1, k1, k2⟩ := C5.out (by trivial) w1
      have R1 := Lib.hid (row_of_runes P w1.drew cap1 k1 k2)
      have A1 := Lib.hid (B1.out.trans ((below_drew1 (Below.refl w1.heap.size w1)).alloc (Nat.le_refl _) (.cells ((nums .i32 P).toArray ++ Array.replicate (cap1 - P.length) (.int .i32 0)) 21) |>.mono B1.out.size))
      have S1 := Lib.hid B1.out.size
      clear k1 k2 B1
      go_wp2_with fail
      clear cv1
      refine (C4.out _).mono ?_
      rintro e w2 ⟨rfl, hb2⟩
      have B2 := Lib.hid (A1.out.trans (hb2.mono A1.out.size))
      have R2 := Lib.hid (Kd.R_lower (R_below R1.out hb2) S1.out)
      clear hb2 A1 R1 S1
      obtain ⟨cap2, cv2, k1, k2⟩ := C6.out (by trivial) w2
      have R3 := Lib.hid (Kd.R_lower (row_of_runes T w2.drew cap2 k1 k2) B2.out.size)
      have hbz := (below_drew1 (Below.refl w2.heap.size w2)).alloc (Nat.le_refl _) (.cells ((nums .i32 T).toArray ++ Array.replicate (cap2 - T.length) (.int .i32 0)) 21)
      have R4 := Lib.hid (R_below R2.out hbz)
      have B3 := Lib.hid (B2.out.trans (hbz.mono B2.out.size))
      have hE := HE.out
      simp only [and_self, if_true] at hE
      clear k1 k2 hbz B2 R2 HE
      by_cases l1 : 64 < P.length
      · rw [if_pos (.inl l1)] at hE
        have d1 : decide ((64 : Int) < (P.length : Int)) = true := by simp; omega
        go_wp2
        go_ret3
        exact ⟨.slice none 0 0, .slice none 0 0, by rw [hE]; rfl, B3.out, ⟨⟨_, _, _, rfl⟩, _, _, _, rfl⟩, fun h => by rw [hE] at h; cases h⟩
      · have d1 : decide ((64 : Int) < (P.length : Int)) = false := by simp; omega
        by_cases l2 : 256 < T.length
        · rw [if_pos (.inr l2)] at hE
          have d2 : decide ((256 : Int) < (T.length : Int)) = true := by simp; omega
          go_wp2
          go_ret3
          exact ⟨.slice none 0 0, .slice none 0 0, by rw [hE]; rfl, B3.out, ⟨⟨_, _, _, rfl⟩, _, _, _, rfl⟩, fun h => by rw [hE] at h; cases h⟩
        · rw [if_neg (by omega)] at hE
          have d2 : decide ((256 : Int) < (T.length : Int)) = false := by simp; omega
          go_wp2
          go_ret3
          exact ⟨_, _, by rw [hE]; rfl, B3.out, ⟨⟨_, _, _, rfl⟩, _, _, _, rfl⟩, fun _ => ⟨R4.out, R3.out⟩⟩
end Go.Proofs.YtfglhnnbfmpfeaaDoor.U
