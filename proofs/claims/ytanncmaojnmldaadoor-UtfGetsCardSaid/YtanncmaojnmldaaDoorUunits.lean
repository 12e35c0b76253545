/- utf.Units: how many units a text has, or its error; for texts of at most 2^45 bytes, the library's two tables lying as they are laid. -/
import Derived.Test.YtanncmaojnmldaaDoorShelf
import Derived.Test.YtanncmaojnmldaaDoorUspec
import Derived.WalkKit
import Derived.Lib.OthersKept
import Derived.Lib.Hide
set_option linter.unusedVariables false
namespace Go.Proofs.YtanncmaojnmldaaDoor.U
open Go.RowKit Go.Proofs Go.Lib

/-- The library's two tables lie as its text lays them. -/
def Tabs (w : World) : Prop := Lib.Utf8Tabs 0 1 w
theorem Tabs.below {w w' : World} (h : Tabs w) (hb : Below w.heap.size w w') : Tabs w' := Utf8Tabs_below h hb

/-- The units of letters. -/
def unit (n : Nat) : List Nat := if n < 65536 then [n] else [55296 + (n - 65536) / 1024, 56320 + (n - 65536) % 1024]
def units (l : List UInt8) : List Nat := (letters l).flatMap unit
def errOf (l : List UInt8) : Int := if valid l = true then 0 else 5
def countOf (l : List UInt8) : Int := if valid l = true then ((units l).length : Int) else 0

theorem valid_calls (s : ByteArray) (w : World) (hs : s.size ≤ 9223372036854775807) (hT : Tabs w) :
    Calls Tryd.prog 27 #[.string s] w fun e w' => e = .returned (.bool (valid s.data.toList)) ∧ Below w.heap.size w w' :=
  Any.utf8_ValidString Tryd.laysValid s w hs hT

/-- What 'next' tells at a place: a letter and its width, by names of their own. -/
theorem next_facts (s : ByteArray) (pos : Nat) (h : pos < s.size) : ∃ r wd : Nat, Utf8.decode s pos = (r, wd) ∧ decodeL (s.data.toList.drop pos) = (r, wd) ∧ 1 ≤ wd ∧ r ≤ 1114111 ∧ s.data.toList.drop pos ≠ [] := by
  refine ⟨(Utf8.decode s pos).1, (Utf8.decode s pos).2, rfl, decodeL_drop s pos, Lib.width_pos s pos, Lib.rune_le s pos, ?_⟩
  intro h0
  have := congrArg List.length h0
  rw [List.length_drop, ← size_eq] at this
  simp at this
  omega
theorem next_run {P : Program} {s : ByteArray} {pos r wd : Nat} (hde : Utf8.decode s pos = (r, wd)) (hp : pos < s.size) (wr : World) (k : Nat) (hit : wr.heap[k]? = some (.stringIter s pos)) (ty : TypeId) :
    (Instr.next (.pointer (some ⟨k, 0, none⟩)) true ty).run P wr = .ok (.tuple #[.bool true, .int .i64 pos, .int .i32 r]) (wr.iterAt k s (pos + wd)) := by
  rw [Lib.run_next_any_at wr k s pos ty hit hp, hde]
theorem units_step {s : ByteArray} {pos r wd : Nat} (hd : decodeL (s.data.toList.drop pos) = (r, wd)) (hne : s.data.toList.drop pos ≠ []) (hv : valid (s.data.toList.drop pos) = true) :
    units (s.data.toList.drop pos) = unit r ++ units (s.data.toList.drop (pos + wd)) ∧ valid (s.data.toList.drop (pos + wd)) = true ∧
      letters (s.data.toList.drop pos) = r :: letters (s.data.toList.drop (pos + wd)) := by
  have hb : ¬ Bad (s.data.toList.drop pos) := by
    intro hb
    rw [valid_step _ hne, if_pos hb] at hv
    cases hv
  have hl : letters (s.data.toList.drop pos) = r :: letters (s.data.toList.drop (pos + wd)) := by
    rw [letters_step _ hne]
    unfold letter1
    rw [if_neg hb, hd, List.drop_drop]
  refine ⟨?_, ?_, hl⟩
  · unfold units
    rw [hl]
    rfl
  · rw [valid_step _ hne, if_neg hb, hd, List.drop_drop] at hv
    exact hv
theorem letters_len (l : List UInt8) : (letters l).length ≤ l.length := by
  revert l
  refine by_letters (by simp [letters_nil]) ?_
  intro l hne ih
  have hw := decodeL_width l
  have hl0 : 0 < l.length := List.length_pos_iff.2 hne
  rw [letters_step l hne, List.length_cons]
  rw [List.length_drop] at ih
  omega
theorem unit_len (n : Nat) : 1 ≤ (unit n).length ∧ (unit n).length ≤ 2 := by unfold unit; split <;> simp
theorem flat_len (ns : List Nat) : (ns.flatMap unit).length ≤ 2 * ns.length := by
  induction ns with
  | nil => simp
  | cons n ns ih =>
    have := unit_len n
    simp only [List.flatMap_cons, List.length_append, List.length_cons]
    omega
theorem units_len (l : List UInt8) : (units l).length ≤ 2 * l.length := by
  have h1 := flat_len (letters l)
  have h2 := letters_len l
  unfold units
  omega

set_option maxHeartbeats 4000000 in
set_option maxRecDepth 1000000 in
theorem Units_yes (s : ByteArray) (w : World) (hs : s.size ≤ 35184372088832) (hT : Tabs w) (hv : valid s.data.toList = true) :
    Calls Tryd.prog 12 #[.string s] w fun e w' => e = .returned (.tuple #[.int .i64 ((units s.data.toList).length : Nat), .int .i64 0]) ∧ Below w.heap.size w w' := by
  have cV := valid_calls s w (by omega) hT
  rw [hv] at cV
  have CV := Lib.hid cV
  clear cV
  have HV := Lib.hid hv
  clear hv hT
  obtain ⟨tot, htot⟩ : ∃ tot, (units s.data.toList).length = tot := ⟨_, rfl⟩
  rw [htot]
  have hlt := units_len s.data.toList
  rw [htot, ← size_eq] at hlt
  have HT := Lib.hid htot
  clear htot
  go_enter Tryd.func12, Tryd.ntmps12
  go_wp2_with (go_at_call 27; refine (CV.out).mono ?_; rintro e w1 ⟨rfl, hb1⟩)
  go_loopw [4] (fun n wr => ∃ pos k : Nat, n = .int .i64 k ∧ wr.heap[w1.heap.size]? = some (.stringIter s pos) ∧ Below w.heap.size w wr ∧ valid (s.data.toList.drop pos) = true ∧ k + (units (s.data.toList.drop pos)).length = tot) (fun _ wr => s.size - wr.iterPos w1.heap.size)
  case atStart =>
    refine ⟨0, 0, rfl, ?_, ?_, HV.out, by rw [List.drop_zero]; simpa using HT.out⟩
    · have := World.iter_heap w1 s 0
      simpa using this
    · exact hb1.alloc hb1.size _
  case round =>
    obtain ⟨pos, k, rfl, hit, hbw, hv, hk⟩ := hrel
    have hsz : w1.heap.size < wr.heap.size := (Array.getElem?_eq_some_iff.1 hit).1
    have hz1 := hb1.size
    by_cases hp : pos < s.size
    · obtain ⟨r, wd, hde, hdl, hwd, hd1, hne⟩ := next_facts s pos hp
      have hnx := next_run (P := Tryd.prog) hde hp wr w1.heap.size hit
      have hit2 := Lib.iterAt_heap wr w1.heap.size s pos (pos + wd) hit
      have hbw2 := Lib.below_iterAt hbw (k := w1.heap.size) (by omega) s (pos + wd)
      obtain ⟨h1, h2, _⟩ := units_step hdl hne hv
      have hk2 := hk
      rw [h1, List.length_append] at hk2
      by_cases hr : r < 65536
      · have hu : (unit r).length = 1 := by unfold unit; rw [if_pos hr]; rfl
        rw [hu] at hk2
        have HK := Lib.hid hk2
        have HIT := Lib.hid hit
        have HIT2 := Lib.hid hit2
        have H2 := Lib.hid h2
        have hkb : k < 9223372036854775800 := by omega
        have hdec : decide ((65536 : Int) ≤ (r : Int)) = false := by simp; omega
        clear hk2 hk h1 h2 hu hit hit2 hv hde hdl hne hr hd1
        go_wp2
        go_roundw
        case rel => exact ⟨pos + wd, k + 1, by go_num, HIT2.out, hbw2, H2.out, by have := HK.out; omega⟩
        case measure =>
          have e1 := HIT.out
          have e2 := HIT2.out
          simp only [World.iterPos, e1, e2]
          omega
      · have hu : (unit r).length = 2 := by unfold unit; rw [if_neg hr]; rfl
        rw [hu] at hk2
        have HK := Lib.hid hk2
        have HIT := Lib.hid hit
        have HIT2 := Lib.hid hit2
        have H2 := Lib.hid h2
        have hkb : k < 9223372036854775800 := by omega
        have hdec : decide ((65536 : Int) ≤ (r : Int)) = true := by simp; omega
        clear hk2 hk h1 h2 hu hit hit2 hv hde hdl hne hr hd1
        go_wp2
        go_roundw
        case rel => exact ⟨pos + wd, k + 2, by go_num, HIT2.out, hbw2, H2.out, by have := HK.out; omega⟩
        case measure =>
          have e1 := HIT.out
          have e2 := HIT2.out
          simp only [World.iterPos, e1, e2]
          omega
    · have hnx : ∀ ty, (Instr.next (.pointer (some ⟨w1.heap.size, 0, none⟩)) true ty).run Tryd.prog wr = _ := fun ty => Lib.run_next_end_at wr w1.heap.size s pos ty hit hp
      have he : s.data.toList.drop pos = [] := List.drop_eq_nil_of_le (by rw [← size_eq]; omega)
      rw [he] at hk
      have hk0 : k = tot := by simpa [units, letters_nil] using hk
      subst hk0
      clear hk hv he
      go_wp2
      go_ret2
      exact ⟨rfl, hbw⟩

set_option maxHeartbeats 4000000 in
set_option maxRecDepth 1000000 in
theorem Units_no (s : ByteArray) (w : World) (hs : s.size ≤ 35184372088832) (hT : Tabs w) (hv : valid s.data.toList = false) :
    Calls Tryd.prog 12 #[.string s] w fun e w' => e = .returned (.tuple #[.int .i64 0, .int .i64 5]) ∧ Below w.heap.size w w' := by
  have cV := valid_calls s w (by omega) hT
  rw [hv] at cV
  have CV := Lib.hid cV
  clear cV hv hT
  go_enter Tryd.func12, Tryd.ntmps12
  go_wp2_with (go_at_call 27; refine (CV.out).mono ?_; rintro e w1 ⟨rfl, hb1⟩)
  go_ret2
  exact ⟨rfl, hb1⟩

theorem Units_calls (s : ByteArray) (w : World) (hs : s.size ≤ 35184372088832) (hT : Tabs w) :
    Calls Tryd.prog 12 #[.string s] w fun e w' => e = .returned (.tuple #[.int .i64 (countOf s.data.toList), .int .i64 (errOf s.data.toList)]) ∧ Below w.heap.size w w' := by
  unfold countOf errOf
  cases hv : valid s.data.toList with
  | true => simp only [if_true]; exact Units_yes s w hs hT hv
  | false => simp only [Bool.false_eq_true, if_false]; exact Units_no s w hs hT hv
end Go.Proofs.YtanncmaojnmldaaDoor.U
