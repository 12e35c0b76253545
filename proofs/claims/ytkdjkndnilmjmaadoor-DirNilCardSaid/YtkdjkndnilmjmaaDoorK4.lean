/- The texts Rfirst, Rfits, Drref, Drmem, Drfind, Dradd, Drrem, Drren, Drlist, one behind the other. -/
import Derived.Test.YtkdjkndnilmjmaaDoorPRx41
import Derived.Test.YtkdjkndnilmjmaaDoorK1
import Derived.Test.YtkdjkndnilmjmaaDoorPRx59
import Derived.Test.YtkdjkndnilmjmaaDoorPRx58
import Derived.Test.YtkdjkndnilmjmaaDoorK2
import Derived.Test.YtkdjkndnilmjmaaDoorPRx46
import Derived.Test.YtkdjkndnilmjmaaDoorPRx45
import Derived.Test.YtkdjkndnilmjmaaDoorPRx42
import Derived.Deep.LoopGhost
import Derived.Test.YtkdjkndnilmjmaaDoorK3
/- The reference's letters, as the print tells them: they are the plain ones. No condition but the text's size. -/
set_option linter.unusedVariables false
set_option linter.unusedSimpArgs false
namespace Go.Proofs.YtkdjkndnilmjmaaDoor.U
open Go.RowKit Go.Proofs.YtkdjkndnilmjmaaDoorW.PrintWords Go.Proofs.YtkdjkndnilmjmaaDoor.PR Go.Lib

theorem w64 {x : Int} (h0 : -9223372036854775808 ≤ x) (h1 : x ≤ 9223372036854775807) : wrap64 x = x := by unfold wrap64; omega

theorem lead_eq (k : Nat) (c : Int) (h0 : 0 ≤ c) (h1 : c ≤ 255) : refectoryref02_lead.f (k + 3) c =
    some (if c < 128 then (1, c, 0) else if c < 192 then (0, 0, 0) else if c < 224 then (2, c - 192, 128) else if c < 240 then (3, c - 224, 2048) else if c < 248 then (4, c - 240, 65536) else (0, 0, 0)) := by
  unfold refectoryref02_lead.f
  by_cases a1 : c < 128
  · rw [if_pos a1, if_pos a1, w64 (by omega) (by omega)]
  · rw [if_neg a1, if_neg a1]
    by_cases a2 : c < 192
    · rw [if_neg (by omega), if_pos a2]
      show refectoryref02_lead.j0 ((k + 2) + 1) c false = _
      rw [refectoryref02_lead.j0]
      rw [if_neg (by decide), if_neg (by omega)]
      show refectoryref02_lead.j1 ((k + 1) + 1) c false = _
      rw [refectoryref02_lead.j1]
      rw [if_neg (by decide), if_neg (by omega)]
    · rw [if_pos (by omega), if_neg a2]
      show refectoryref02_lead.j0 ((k + 2) + 1) c _ = _
      rw [refectoryref02_lead.j0]
      by_cases a3 : c < 224
      · rw [if_pos (by simpa using a3), if_pos a3, w64 (x := c) (by omega) (by omega), w64 (by omega) (by omega)]
      · rw [if_neg (by simpa using a3), if_neg a3, if_pos (by omega)]
        show refectoryref02_lead.j1 ((k + 1) + 1) c _ = _
        rw [refectoryref02_lead.j1]
        by_cases a4 : c < 240
        · rw [if_pos (by simpa using a4), if_pos a4, w64 (x := c) (by omega) (by omega), w64 (by omega) (by omega)]
        · rw [if_neg (by simpa using a4), if_neg a4, if_pos (by omega)]
          by_cases a5 : c < 248
          · rw [if_pos a5, if_pos a5, w64 (x := c) (by omega) (by omega), w64 (by omega) (by omega)]
          · rw [if_neg a5, if_neg a5]

theorem letter_eq (n : Int) : refectoryref02_Letter.f n = some (decide (0 ≤ n ∧ n ≤ 1114111 ∧ (n < 55296 ∨ 57343 < n))) := by
  unfold refectoryref02_Letter.f
  by_cases a1 : n ≥ 0
  · by_cases a2 : n ≤ 1114111
    · by_cases a3 : n < 55296
      · rw [if_pos a1, if_pos a2, if_pos a3]; simp; omega
      · rw [if_pos a1, if_pos a2, if_neg a3]
        congr 1
        exact decide_eq_decide.2 ⟨fun h => ⟨by omega, by omega, by omega⟩, fun h => by omega⟩
    · rw [if_pos a1, if_neg a2]; simp; omega
  · rw [if_neg a1]; simp; omega

/-- One byte more. -/
theorem more_eq (k : Nat) (s : ByteArray) (at' sz n least i b : Int) (hi : i < sz) (h0 : 0 ≤ at' + i) (h1 : at' + i < s.size) (hs : s.size ≤ 17592186044416) (hb : bt s (at' + i) = b) (hbr : 0 ≤ b ∧ b ≤ 255) (hn : 0 ≤ n ∧ n ≤ 1114112) (hi2 : 0 ≤ i ∧ i ≤ 10) :
    refectoryref02_first.l0 (k + 1) s at' sz n least i = if 128 ≤ b ∧ b < 192 then refectoryref02_first.l0 k s at' sz (64 * n + b - 128) least (i + 1) else some (0, 0) := by
  rw [refectoryref02_first.l0, if_pos hi, w64 (x := at' + i) (by omega) (by omega), if_pos h0, if_pos h1, hb, w64 (x := b) (by omega) (by omega), w64 (x := 64 * n) (by omega) (by omega), w64 (x := 64 * n + b) (by omega) (by omega),
    w64 (x := 64 * n + b - 128) (by omega) (by omega), w64 (x := i + 1) (by omega) (by omega)]
  by_cases a1 : b < 128
  · rw [if_pos a1, if_neg (by omega)]
  · rw [if_neg a1]
    by_cases a2 : b ≥ 192
    · rw [if_pos a2, if_neg (by omega)]
    · rw [if_neg a2, if_pos (by omega)]
theorem last_eq (k : Nat) (s : ByteArray) (at' sz n least i : Int) (hi : ¬ i < sz) :
    refectoryref02_first.l0 (k + 1) s at' sz n least i = if least ≤ n ∧ 0 ≤ n ∧ n ≤ 1114111 ∧ (n < 55296 ∨ 57343 < n) then some (n, sz) else some (0, 0) := by
  rw [refectoryref02_first.l0, if_neg hi, letter_eq]
  by_cases a1 : n < least
  · rw [if_pos a1, if_neg (by omega)]
  · rw [if_neg a1]
    simp only [Option.bind_some]
    by_cases a2 : 0 ≤ n ∧ n ≤ 1114111 ∧ (n < 55296 ∨ 57343 < n)
    · rw [if_pos (by simpa using a2), if_pos ⟨by omega, a2⟩]
    · rw [if_neg (by simpa using a2), if_neg (fun h => a2 h.2)]

def firstOf (D : Nat × Nat) : Int × Int := if D.1 = 65533 ∧ D.2 = 1 then (0, 0) else ((D.1 : Int), (D.2 : Int))

theorem first_unf (k : Nat) (s : ByteArray) (at' a b d c : Int) (h0 : 0 ≤ at') (h1 : at' < s.size) (hc : bt s at' = c) (hl : refectoryref02_lead.f k c = some (a, b, d)) :
    refectoryref02_first.f k s at' = if a = 0 then refectoryref02_first.j0 k s at' a b d true else refectoryref02_first.j0 k s at' a b d (decide (wrap64 (at' + a) > (s.size : Int))) := by
  unfold refectoryref02_first.f
  rw [if_pos h0, if_pos h1, hc, hl]
  rfl
theorem pair_eq {a b c d : Int} (h : a = b) (h' : c = d) : (some (a, c) : Option (Int × Int)) = some (b, d) := by rw [h, h']
theorem firstOf_bad : firstOf (65533, 1) = (0, 0) := rfl
theorem firstOf_good (n w : Nat) (h : ¬ (n = 65533 ∧ w = 1)) : firstOf (n, w) = ((n : Int), (w : Int)) := by unfold firstOf; rw [if_neg h]
set_option maxHeartbeats 4000000 in
theorem first_N1 (k : Nat) (s : ByteArray) (pos b0 b1 b2 b3 n : Nat) (h : pos < s.size) (hs : s.size ≤ 17592186044416) (hn : n = s.size - pos) (h0 : b0 < 256) (h1 : b1 < 256) (h2 : b2 < 256) (h3 : b3 < 256)
    (e0 : bt s pos = b0) (e1 : pos + 1 < s.size → bt s (pos + 1) = b1) (e2 : pos + 2 < s.size → bt s (pos + 2) = b2) (e3 : pos + 3 < s.size → bt s (pos + 3) = b3) (hc : b0 < 128) :
    refectoryref02_first.f (k + 8) s pos = some (firstOf (decodeN n b0 b1 b2 b3)) := by
  have hl := lead_eq (k + 5) (b0 : Int) (by omega) (by omega)
  have a1 : b0 < 128 := hc
  have hd : decodeN n b0 b1 b2 b3 = (b0, 1) := by unfold decodeN; rw [if_pos a1]
  rw [if_pos (by omega)] at hl
  rw [first_unf _ _ _ _ _ _ _ (by omega) (by omega) e0 hl, hd, firstOf_good _ _ (by omega)]
  rw [if_neg (by omega), w64 (x := (pos : Int) + 1) (by omega) (by omega), decide_eq_false (by omega)]
  show refectoryref02_first.j0 ((k + 7) + 1) _ _ _ _ _ _ = _
  rw [refectoryref02_first.j0, if_neg (by decide)]
  show refectoryref02_first.l0 ((k + 6) + 1) _ _ _ _ _ _ = _
  rw [last_eq _ _ _ _ _ _ _ (by omega), if_pos (by omega)]
  rfl

set_option maxHeartbeats 4000000 in
theorem first_N2 (k : Nat) (s : ByteArray) (pos b0 b1 b2 b3 n : Nat) (h : pos < s.size) (hs : s.size ≤ 17592186044416) (hn : n = s.size - pos) (h0 : b0 < 256) (h1 : b1 < 256) (h2 : b2 < 256) (h3 : b3 < 256)
    (e0 : bt s pos = b0) (e1 : pos + 1 < s.size → bt s (pos + 1) = b1) (e2 : pos + 2 < s.size → bt s (pos + 2) = b2) (e3 : pos + 3 < s.size → bt s (pos + 3) = b3) (hc : 128 ≤ b0 ∧ b0 < 192) :
    refectoryref02_first.f (k + 8) s pos = some (firstOf (decodeN n b0 b1 b2 b3)) := by
  have hl := lead_eq (k + 5) (b0 : Int) (by omega) (by omega)
  have a1 : ¬ b0 < 128 := by omega
  rw [if_neg (by omega)] at hl
  have hd : decodeN n b0 b1 b2 b3 = (65533, 1) := by unfold decodeN; rw [if_neg a1, if_neg (by omega), if_neg (by omega), if_neg (by omega)]
  rw [if_pos (by omega)] at hl
  rw [first_unf _ _ _ _ _ _ _ (by omega) (by omega) e0 hl, hd, firstOf_bad]
  rw [if_pos rfl]
  show refectoryref02_first.j0 ((k + 7) + 1) _ _ _ _ _ _ = _
  rw [refectoryref02_first.j0, if_pos rfl]

set_option maxHeartbeats 4000000 in
theorem first_N3 (k : Nat) (s : ByteArray) (pos b0 b1 b2 b3 n : Nat) (h : pos < s.size) (hs : s.size ≤ 17592186044416) (hn : n = s.size - pos) (h0 : b0 < 256) (h1 : b1 < 256) (h2 : b2 < 256) (h3 : b3 < 256)
    (e0 : bt s pos = b0) (e1 : pos + 1 < s.size → bt s (pos + 1) = b1) (e2 : pos + 2 < s.size → bt s (pos + 2) = b2) (e3 : pos + 3 < s.size → bt s (pos + 3) = b3) (hc : 192 ≤ b0 ∧ b0 < 224) :
    refectoryref02_first.f (k + 8) s pos = some (firstOf (decodeN n b0 b1 b2 b3)) := by
  have hl := lead_eq (k + 5) (b0 : Int) (by omega) (by omega)
  have a1 : ¬ b0 < 128 := by omega
  rw [if_neg (by omega)] at hl
  rw [if_neg (by omega)] at hl
  rw [if_pos (by omega)] at hl
  rw [first_unf _ _ _ _ _ _ _ (by omega) (by omega) e0 hl]
  rw [if_neg (by omega), w64 (x := (pos : Int) + 2) (by omega) (by omega)]
  show refectoryref02_first.j0 ((k + 7) + 1) _ _ _ _ _ _ = _
  rw [refectoryref02_first.j0]
  have d3 : ¬ (b0 / 16 = 14 ∧ (1 < n ∧ b1 / 64 = 2) ∧ (2 < n ∧ b2 / 64 = 2)) := by omega
  have d4 : ¬ (b0 / 8 = 30 ∧ (1 < n ∧ b1 / 64 = 2) ∧ (2 < n ∧ b2 / 64 = 2) ∧ (3 < n ∧ b3 / 64 = 2)) := by omega
  by_cases a4 : 1 < n
  · rw [decide_eq_false (by omega), if_neg (by decide)]
    show refectoryref02_first.l0 ((k + 6) + 1) _ _ _ _ _ _ = _
    rw [more_eq _ _ _ _ _ _ _ (b1 : Int) (by omega) (by omega) (by omega) hs (e1 (by omega)) (by omega) (by omega) (by omega)]
    by_cases a5 : 128 ≤ b1 ∧ b1 < 192
    · rw [if_pos (by omega)]
      show refectoryref02_first.l0 ((k + 5) + 1) _ _ _ _ _ _ = _
      by_cases a6 : b0 % 32 * 64 + b1 % 64 ≥ 128
      · have hd : decodeN n b0 b1 b2 b3 = (b0 % 32 * 64 + b1 % 64, 2) := by unfold decodeN; rw [if_neg a1, if_pos (by omega), if_pos a6]
        rw [last_eq _ _ _ _ _ _ _ (by omega), if_pos (by omega), hd, firstOf_good _ _ (by omega)]
        exact pair_eq (by omega) (by omega)
      · have hd : decodeN n b0 b1 b2 b3 = (65533, 1) := by unfold decodeN; rw [if_neg a1, if_pos (by omega), if_neg a6]
        rw [last_eq _ _ _ _ _ _ _ (by omega), if_neg (by omega), hd, firstOf_bad]
    · have hd : decodeN n b0 b1 b2 b3 = (65533, 1) := by unfold decodeN; rw [if_neg a1, if_neg (by omega), if_neg d3, if_neg d4]
      rw [if_neg (by omega), hd, firstOf_bad]
  · have hd : decodeN n b0 b1 b2 b3 = (65533, 1) := by unfold decodeN; rw [if_neg a1, if_neg (by omega), if_neg d3, if_neg d4]
    rw [decide_eq_true (by omega), if_pos rfl, hd, firstOf_bad]

set_option maxHeartbeats 4000000 in
theorem first_N4 (k : Nat) (s : ByteArray) (pos b0 b1 b2 b3 n : Nat) (h : pos < s.size) (hs : s.size ≤ 17592186044416) (hn : n = s.size - pos) (h0 : b0 < 256) (h1 : b1 < 256) (h2 : b2 < 256) (h3 : b3 < 256)
    (e0 : bt s pos = b0) (e1 : pos + 1 < s.size → bt s (pos + 1) = b1) (e2 : pos + 2 < s.size → bt s (pos + 2) = b2) (e3 : pos + 3 < s.size → bt s (pos + 3) = b3) (hc : 224 ≤ b0 ∧ b0 < 240) :
    refectoryref02_first.f (k + 8) s pos = some (firstOf (decodeN n b0 b1 b2 b3)) := by
  have hl := lead_eq (k + 5) (b0 : Int) (by omega) (by omega)
  have a1 : ¬ b0 < 128 := by omega
  have d2 : ¬ (b0 / 32 = 6 ∧ (1 < n ∧ b1 / 64 = 2)) := by omega
  rw [if_neg (by omega)] at hl
  rw [if_neg (by omega)] at hl
  rw [if_neg (by omega)] at hl
  rw [if_pos (by omega)] at hl
  rw [first_unf _ _ _ _ _ _ _ (by omega) (by omega) e0 hl]
  rw [if_neg (by omega), w64 (x := (pos : Int) + 3) (by omega) (by omega)]
  show refectoryref02_first.j0 ((k + 7) + 1) _ _ _ _ _ _ = _
  rw [refectoryref02_first.j0]
  have d4 : ¬ (b0 / 8 = 30 ∧ (1 < n ∧ b1 / 64 = 2) ∧ (2 < n ∧ b2 / 64 = 2) ∧ (3 < n ∧ b3 / 64 = 2)) := by omega
  by_cases a5 : 2 < n
  · rw [decide_eq_false (by omega), if_neg (by decide)]
    show refectoryref02_first.l0 ((k + 6) + 1) _ _ _ _ _ _ = _
    rw [more_eq _ _ _ _ _ _ _ (b1 : Int) (by omega) (by omega) (by omega) hs (e1 (by omega)) (by omega) (by omega) (by omega)]
    by_cases a6 : 128 ≤ b1 ∧ b1 < 192
    · rw [if_pos (by omega)]
      show refectoryref02_first.l0 ((k + 5) + 1) _ _ _ _ _ _ = _
      rw [more_eq _ _ _ _ _ _ _ (b2 : Int) (by omega) (by omega) (by omega) hs (by rw [show ((pos : Int) + (1 + 1)) = (pos : Int) + 2 from by omega]; exact e2 (by omega)) (by omega) (by omega) (by omega)]
      by_cases a7 : 128 ≤ b2 ∧ b2 < 192
      · rw [if_pos (by omega)]
        show refectoryref02_first.l0 ((k + 4) + 1) _ _ _ _ _ _ = _
        by_cases a8 : b0 % 16 * 4096 + b1 % 64 * 64 + b2 % 64 ≥ 2048 ∧ (b0 % 16 * 4096 + b1 % 64 * 64 + b2 % 64 < 55296 ∨ (57344 ≤ b0 % 16 * 4096 + b1 % 64 * 64 + b2 % 64 ∧ b0 % 16 * 4096 + b1 % 64 * 64 + b2 % 64 ≤ 1114111))
        · have hd : decodeN n b0 b1 b2 b3 = (b0 % 16 * 4096 + b1 % 64 * 64 + b2 % 64, 3) := by unfold decodeN; rw [if_neg a1, if_neg d2, if_pos (by omega), if_pos a8]
          rw [last_eq _ _ _ _ _ _ _ (by omega), if_pos (by omega), hd, firstOf_good _ _ (by omega)]
          exact pair_eq (by omega) (by omega)
        · have hd : decodeN n b0 b1 b2 b3 = (65533, 1) := by unfold decodeN; rw [if_neg a1, if_neg d2, if_pos (by omega), if_neg a8]
          rw [last_eq _ _ _ _ _ _ _ (by omega), if_neg (by omega), hd, firstOf_bad]
      · have hd : decodeN n b0 b1 b2 b3 = (65533, 1) := by unfold decodeN; rw [if_neg a1, if_neg d2, if_neg (by omega), if_neg d4]
        rw [if_neg (by omega), hd, firstOf_bad]
    · have hd : decodeN n b0 b1 b2 b3 = (65533, 1) := by unfold decodeN; rw [if_neg a1, if_neg d2, if_neg (by omega), if_neg d4]
      rw [if_neg (by omega), hd, firstOf_bad]
  · have hd : decodeN n b0 b1 b2 b3 = (65533, 1) := by unfold decodeN; rw [if_neg a1, if_neg d2, if_neg (by omega), if_neg d4]
    rw [decide_eq_true (by omega), if_pos rfl, hd, firstOf_bad]

set_option maxHeartbeats 4000000 in
theorem first_N5 (k : Nat) (s : ByteArray) (pos b0 b1 b2 b3 n : Nat) (h : pos < s.size) (hs : s.size ≤ 17592186044416) (hn : n = s.size - pos) (h0 : b0 < 256) (h1 : b1 < 256) (h2 : b2 < 256) (h3 : b3 < 256)
    (e0 : bt s pos = b0) (e1 : pos + 1 < s.size → bt s (pos + 1) = b1) (e2 : pos + 2 < s.size → bt s (pos + 2) = b2) (e3 : pos + 3 < s.size → bt s (pos + 3) = b3) (hc : 240 ≤ b0 ∧ b0 < 248) :
    refectoryref02_first.f (k + 8) s pos = some (firstOf (decodeN n b0 b1 b2 b3)) := by
  have hl := lead_eq (k + 5) (b0 : Int) (by omega) (by omega)
  have a1 : ¬ b0 < 128 := by omega
  have d2 : ¬ (b0 / 32 = 6 ∧ (1 < n ∧ b1 / 64 = 2)) := by omega
  have d3 : ¬ (b0 / 16 = 14 ∧ (1 < n ∧ b1 / 64 = 2) ∧ (2 < n ∧ b2 / 64 = 2)) := by omega
  rw [if_neg (by omega)] at hl
  rw [if_neg (by omega)] at hl
  rw [if_neg (by omega)] at hl
  rw [if_neg (by omega)] at hl
  rw [if_pos (by omega)] at hl
  rw [first_unf _ _ _ _ _ _ _ (by omega) (by omega) e0 hl]
  rw [if_neg (by omega), w64 (x := (pos : Int) + 4) (by omega) (by omega)]
  show refectoryref02_first.j0 ((k + 7) + 1) _ _ _ _ _ _ = _
  rw [refectoryref02_first.j0]
  by_cases a6 : 3 < n
  · rw [decide_eq_false (by omega), if_neg (by decide)]
    show refectoryref02_first.l0 ((k + 6) + 1) _ _ _ _ _ _ = _
    rw [more_eq _ _ _ _ _ _ _ (b1 : Int) (by omega) (by omega) (by omega) hs (e1 (by omega)) (by omega) (by omega) (by omega)]
    by_cases a7 : 128 ≤ b1 ∧ b1 < 192
    · rw [if_pos (by omega)]
      show refectoryref02_first.l0 ((k + 5) + 1) _ _ _ _ _ _ = _
      rw [more_eq _ _ _ _ _ _ _ (b2 : Int) (by omega) (by omega) (by omega) hs (by rw [show ((pos : Int) + (1 + 1)) = (pos : Int) + 2 from by omega]; exact e2 (by omega)) (by omega) (by omega) (by omega)]
      by_cases a8 : 128 ≤ b2 ∧ b2 < 192
      · rw [if_pos (by omega)]
        show refectoryref02_first.l0 ((k + 4) + 1) _ _ _ _ _ _ = _
        rw [more_eq _ _ _ _ _ _ _ (b3 : Int) (by omega) (by omega) (by omega) hs (by rw [show ((pos : Int) + (1 + 1 + 1)) = (pos : Int) + 3 from by omega]; exact e3 (by omega)) (by omega) (by omega) (by omega)]
        by_cases a9 : 128 ≤ b3 ∧ b3 < 192
        · rw [if_pos (by omega)]
          show refectoryref02_first.l0 ((k + 3) + 1) _ _ _ _ _ _ = _
          by_cases a10 : b0 % 8 * 262144 + b1 % 64 * 4096 + b2 % 64 * 64 + b3 % 64 ≥ 65536 ∧ (b0 % 8 * 262144 + b1 % 64 * 4096 + b2 % 64 * 64 + b3 % 64 < 55296 ∨ (57344 ≤ b0 % 8 * 262144 + b1 % 64 * 4096 + b2 % 64 * 64 + b3 % 64 ∧ b0 % 8 * 262144 + b1 % 64 * 4096 + b2 % 64 * 64 + b3 % 64 ≤ 1114111))
          · have hd : decodeN n b0 b1 b2 b3 = (b0 % 8 * 262144 + b1 % 64 * 4096 + b2 % 64 * 64 + b3 % 64, 4) := by unfold decodeN; rw [if_neg a1, if_neg d2, if_neg d3, if_pos (by omega), if_pos a10]
            rw [last_eq _ _ _ _ _ _ _ (by omega), if_pos (by omega), hd, firstOf_good _ _ (by omega)]
            exact pair_eq (by omega) (by omega)
          · have hd : decodeN n b0 b1 b2 b3 = (65533, 1) := by unfold decodeN; rw [if_neg a1, if_neg d2, if_neg d3, if_pos (by omega), if_neg a10]
            rw [last_eq _ _ _ _ _ _ _ (by omega), if_neg (by omega), hd, firstOf_bad]
        · have hd : decodeN n b0 b1 b2 b3 = (65533, 1) := by unfold decodeN; rw [if_neg a1, if_neg d2, if_neg d3, if_neg (by omega)]
          rw [if_neg (by omega), hd, firstOf_bad]
      · have hd : decodeN n b0 b1 b2 b3 = (65533, 1) := by unfold decodeN; rw [if_neg a1, if_neg d2, if_neg d3, if_neg (by omega)]
        rw [if_neg (by omega), hd, firstOf_bad]
    · have hd : decodeN n b0 b1 b2 b3 = (65533, 1) := by unfold decodeN; rw [if_neg a1, if_neg d2, if_neg d3, if_neg (by omega)]
      rw [if_neg (by omega), hd, firstOf_bad]
  · have hd : decodeN n b0 b1 b2 b3 = (65533, 1) := by unfold decodeN; rw [if_neg a1, if_neg d2, if_neg d3, if_neg (by omega)]
    rw [decide_eq_true (by omega), if_pos rfl, hd, firstOf_bad]

set_option maxHeartbeats 4000000 in
theorem first_N6 (k : Nat) (s : ByteArray) (pos b0 b1 b2 b3 n : Nat) (h : pos < s.size) (hs : s.size ≤ 17592186044416) (hn : n = s.size - pos) (h0 : b0 < 256) (h1 : b1 < 256) (h2 : b2 < 256) (h3 : b3 < 256)
    (e0 : bt s pos = b0) (e1 : pos + 1 < s.size → bt s (pos + 1) = b1) (e2 : pos + 2 < s.size → bt s (pos + 2) = b2) (e3 : pos + 3 < s.size → bt s (pos + 3) = b3) (hc : 248 ≤ b0) :
    refectoryref02_first.f (k + 8) s pos = some (firstOf (decodeN n b0 b1 b2 b3)) := by
  have hl := lead_eq (k + 5) (b0 : Int) (by omega) (by omega)
  have a1 : ¬ b0 < 128 := by omega
  have d2 : ¬ (b0 / 32 = 6 ∧ (1 < n ∧ b1 / 64 = 2)) := by omega
  have d3 : ¬ (b0 / 16 = 14 ∧ (1 < n ∧ b1 / 64 = 2) ∧ (2 < n ∧ b2 / 64 = 2)) := by omega
  rw [if_neg (by omega)] at hl
  rw [if_neg (by omega)] at hl
  rw [if_neg (by omega)] at hl
  rw [if_neg (by omega)] at hl
  have hd : decodeN n b0 b1 b2 b3 = (65533, 1) := by unfold decodeN; rw [if_neg a1, if_neg d2, if_neg d3, if_neg (by omega)]
  rw [if_neg (by omega)] at hl
  rw [first_unf _ _ _ _ _ _ _ (by omega) (by omega) e0 hl, hd, firstOf_bad]
  rw [if_pos rfl]
  show refectoryref02_first.j0 ((k + 7) + 1) _ _ _ _ _ _ = _
  rw [refectoryref02_first.j0, if_pos rfl]

theorem first_N (k : Nat) (s : ByteArray) (pos b0 b1 b2 b3 n : Nat) (h : pos < s.size) (hs : s.size ≤ 17592186044416) (hn : n = s.size - pos) (h0 : b0 < 256) (h1 : b1 < 256) (h2 : b2 < 256) (h3 : b3 < 256)
    (e0 : bt s pos = b0) (e1 : pos + 1 < s.size → bt s (pos + 1) = b1) (e2 : pos + 2 < s.size → bt s (pos + 2) = b2) (e3 : pos + 3 < s.size → bt s (pos + 3) = b3) :
    refectoryref02_first.f (k + 8) s pos = some (firstOf (decodeN n b0 b1 b2 b3)) := by
  by_cases a1 : b0 < 128
  · exact first_N1 k s pos b0 b1 b2 b3 n h hs hn h0 h1 h2 h3 e0 e1 e2 e3 a1
  · by_cases a2 : b0 < 192
    · exact first_N2 k s pos b0 b1 b2 b3 n h hs hn h0 h1 h2 h3 e0 e1 e2 e3 ⟨by omega, a2⟩
    · by_cases a3 : b0 < 224
      · exact first_N3 k s pos b0 b1 b2 b3 n h hs hn h0 h1 h2 h3 e0 e1 e2 e3 ⟨by omega, a3⟩
      · by_cases a4 : b0 < 240
        · exact first_N4 k s pos b0 b1 b2 b3 n h hs hn h0 h1 h2 h3 e0 e1 e2 e3 ⟨by omega, a4⟩
        · by_cases a5 : b0 < 248
          · exact first_N5 k s pos b0 b1 b2 b3 n h hs hn h0 h1 h2 h3 e0 e1 e2 e3 ⟨by omega, a5⟩
          · exact first_N6 k s pos b0 b1 b2 b3 n h hs hn h0 h1 h2 h3 e0 e1 e2 e3 (by omega)

theorem bt_drop (s : ByteArray) (pos i : Nat) (h : pos + i < s.size) : bt s ((pos + i : Nat) : Int) = (((s.data.toList.drop pos).getD i 0).toNat : Int) := by
  have e : ((pos + i : Nat) : Int).toNat = pos + i := Int.toNat_natCast _
  unfold bt
  rw [dif_pos (by rw [e]; exact h), getD_dropU]
  congr 2
  simp only [e]
  rw [List.getD_eq_getElem?_getD, List.getElem?_eq_getElem (by rw [← size_eq]; exact h)]
  rfl
theorem first_eq (k : Nat) (s : ByteArray) (pos : Nat) (h : pos < s.size) (hs : s.size ≤ 17592186044416) :
    refectoryref02_first.f (k + 8) s pos = some (firstOf (decodeL (s.data.toList.drop pos))) := by
  rw [decodeL_N]
  refine first_N k s pos _ _ _ _ _ h hs (by rw [List.length_drop, ← size_eq]) (UInt8.toNat_lt _) (UInt8.toNat_lt _) (UInt8.toNat_lt _) (UInt8.toNat_lt _) ?_ ?_ ?_ ?_
  · have := bt_drop s pos 0 (by omega); simpa using this
  · intro hp; have := bt_drop s pos 1 hp; simpa using this
  · intro hp; have := bt_drop s pos 2 hp; simpa using this
  · intro hp; have := bt_drop s pos 3 hp; simpa using this

/-- The reference's letters. -/
def lnums (l : List UInt8) : List Int := (letters l).map fun n : Nat => (n : Int)
theorem letters_l0 (s : ByteArray) (hs : s.size ≤ 17592186044415) : ∀ (d k pos : Nat) (acc : List Int) (is : Bool), s.size - pos ≤ d → pos ≤ s.size → acc.length ≤ pos → d + 9 ≤ k →
    refectoryref02_Letters.l0 k s acc is pos = some (acc ++ lnums (s.data.toList.drop pos), is && valid (s.data.toList.drop pos)) := by
  intro d
  induction d with
  | zero =>
    intro k pos acc is hd hp ha hk
    obtain ⟨k, rfl⟩ : ∃ m, k = m + 1 := ⟨k - 1, by omega⟩
    have he : s.data.toList.drop pos = [] := List.drop_eq_nil_of_le (by rw [← size_eq]; omega)
    rw [refectoryref02_Letters.l0, if_neg (by omega), he]
    simp [lnums, letters_nil, valid, validD_nil]
  | succ d ih =>
    intro k pos acc is hd hp ha hk
    obtain ⟨k, rfl⟩ : ∃ m, k = m + 1 := ⟨k - 1, by omega⟩
    by_cases hlt : pos < s.size
    · obtain ⟨k', hk'⟩ : ∃ m, k = m + 8 := ⟨k - 8, by omega⟩
      have hne : s.data.toList.drop pos ≠ [] := by
        intro h0
        have := congrArg List.length h0
        rw [List.length_drop, ← size_eq] at this
        simp at this
        omega
      have hw := decodeL_width (s.data.toList.drop pos)
      have hwl := decodeL_le (s.data.toList.drop pos) hne
      rw [List.length_drop, ← size_eq] at hwl
      rw [refectoryref02_Letters.l0, if_pos (by omega), hk', first_eq k' s pos hlt (by omega), ← hk']
      simp only [Option.bind_some]
      rcases hD : decodeL (s.data.toList.drop pos) with ⟨r, wd⟩
      rw [hD] at hw hwl
      dsimp only at hw hwl
      by_cases hb : r = 65533 ∧ wd = 1
      · obtain ⟨rfl, rfl⟩ := hb
        have hbt := bt_drop s pos 0 (by omega)
        rw [Nat.add_zero] at hbt
        have h255 := ((s.data.toList.drop pos).getD 0 0).toNat_lt
        have hv : valid (s.data.toList.drop pos) = false := by rw [valid_step _ hne, if_pos (by unfold Bad; rw [hD]; exact ⟨rfl, rfl⟩)]
        have hl : lnums (s.data.toList.drop pos) = ((1114112 + ((s.data.toList.drop pos).getD 0 0).toNat : Nat) : Int) :: lnums (s.data.toList.drop (pos + 1)) := by
          unfold lnums
          rw [letters_step _ hne, letter1_bad hD, hD, List.drop_drop, List.map_cons]
          congr 3
          rcases s.data.toList.drop pos with _ | ⟨a, t⟩ <;> rfl
        rw [show firstOf (65533, 1) = (0, 0) from rfl]
        dsimp only
        rw [if_pos rfl, if_pos (by omega), if_pos (by omega), hbt, w64 (x := (((s.data.toList.drop pos).getD 0 0).toNat : Int)) (by omega) (by omega), w64 (x := 1114112 + _) (by omega) (by omega), w64 (x := (pos : Int) + 1) (by omega) (by omega)]
        rw [show ((pos : Int) + 1) = ((pos + 1 : Nat) : Int) from rfl, ih k (pos + 1) _ false (by omega) (by omega) (by simp; omega) (by omega), hv, hl]
        simp
      · have hv : valid (s.data.toList.drop pos) = valid (s.data.toList.drop (pos + wd)) := by rw [valid_step _ hne, if_neg (by unfold Bad; rw [hD]; exact hb), hD, List.drop_drop]
        have hl : lnums (s.data.toList.drop pos) = (r : Int) :: lnums (s.data.toList.drop (pos + wd)) := by
          unfold lnums
          rw [letters_step _ hne, letter1_good hD hb, hD, List.drop_drop]
          rfl
        have hf : firstOf (r, wd) = ((r : Int), (wd : Int)) := by unfold firstOf; rw [if_neg hb]
        rw [hf]
        dsimp only
        rw [if_neg (by omega), if_pos (by omega), w64 (by omega) (by omega)]
        rw [show ((pos : Int) + (wd : Int)) = ((pos + wd : Nat) : Int) from by omega, ih k (pos + wd) _ is (by omega) (by omega) (by simp; omega) (by omega), hv, hl]
        simp
    · have he : s.data.toList.drop pos = [] := List.drop_eq_nil_of_le (by rw [← size_eq]; omega)
      rw [refectoryref02_Letters.l0, if_neg (by omega), he]
      simp [lnums, letters_nil, valid, validD_nil]
theorem Letters_eq (s : ByteArray) (hs : s.size ≤ 17592186044415) (k : Nat) (hk : s.size + 9 ≤ k) : refectoryref02_Letters.f k s = some (lnums s.data.toList, valid s.data.toList) := by
  unfold refectoryref02_Letters.f
  have := letters_l0 s hs s.size k 0 [] true (by omega) (by omega) (by simp) hk
  simpa using this
end Go.Proofs.YtkdjkndnilmjmaaDoor.U
/- refectoryref05.Fits: the document's answer is what the plain words say. -/
set_option linter.unusedVariables false
set_option linter.unusedSimpArgs false
namespace Go.Proofs.YtkdjkndnilmjmaaDoor.U
open Go.RowKit Go.Proofs Go.Lib Go.Proofs.YtkdjkndnilmjmaaDoorW.PrintWords Go.Proofs.YtkdjkndnilmjmaaDoor.PR

/-- A row of the reference: at k: do the first k letters of the pattern fit? -/
def RowIs (P t : List Int) (x : List Bool) : Prop := x.length = P.length + 1 ∧ ∀ j, j ≤ P.length → x.getD j false = mt (P.take j) t
theorem take_snoc {P : List Int} {j : Nat} (h : j < P.length) : P.take (j + 1) = P.take j ++ [P.getD j 0] := by
  rw [List.take_add_one, List.getElem?_eq_getElem h, List.getD_eq_getElem?_getD, List.getElem?_eq_getElem h]
  rfl
theorem getD_set (x : List Bool) (a j : Nat) (b : Bool) (h : a < x.length) : (x.set a b).getD j false = if j = a then b else x.getD j false := by
  rw [List.getD_eq_getElem?_getD, List.getD_eq_getElem?_getD, List.getElem?_set]
  by_cases e : a = j
  · subst e
    rw [if_pos rfl, if_pos h, if_pos rfl]
    rfl
  · rw [if_neg e, if_neg (Ne.symm e)]
theorem w64n {n : Nat} (h : n ≤ 9000000000000000000) : wrap64 ((n : Int) + 1) = ((n + 1 : Nat) : Int) := by rw [w64 (by omega) (by omega)]; omega

theorem fits_l0 (P T : List Int) (hP : P.length ≤ 100) : ∀ (d k j : Nat) (x : List Bool), P.length - j ≤ d → j ≤ P.length → x.length = P.length + 1 → (∀ i, i ≤ P.length → x.getD i false = decide (i ≤ j)) → (∀ i, i < j → P.getD i 0 = 42) → d + 3 ≤ k →
    ∃ k' y, k ≤ k' + d + 2 ∧ RowIs P [] y ∧ refectoryref05_fits.l0 k P T x j = refectoryref05_fits.l1 k' P T y 0 := by
  have fin : ∀ (j : Nat) (x : List Bool), j ≤ P.length → x.length = P.length + 1 → (∀ i, i ≤ P.length → x.getD i false = decide (i ≤ j)) → (∀ i, i < j → P.getD i 0 = 42) → (j < P.length → P.getD j 0 ≠ 42) → RowIs P [] x := by
    intro j x hj hl hx hs hne
    have stars : ∀ i, i ≤ j → mt (P.take i) [] = true := by
      intro i
      induction i with
      | zero => intro _; rfl
      | succ i ih =>
        intro hi
        rw [take_snoc (by omega), hs i (by omega), mt_snoc_star_nil]
        exact ih (by omega)
    refine ⟨hl, fun i hi => ?_⟩
    rw [hx i hi]
    by_cases hij : i ≤ j
    · rw [decide_eq_true hij, stars i hij]
    · rw [decide_eq_false hij]
      have none_ : ∀ m, j + 1 + m ≤ P.length → mt (P.take (j + 1 + m)) [] = false := by
        intro m
        induction m with
        | zero =>
          intro h
          rw [Nat.add_zero, take_snoc (by omega), mt_snoc_one_nil (hne (by omega))]
        | succ m ih =>
          intro h
          rw [show j + 1 + (m + 1) = j + 1 + m + 1 by omega, take_snoc (by omega)]
          by_cases hc : P.getD (j + 1 + m) 0 = 42
          · rw [hc, mt_snoc_star_nil]
            exact ih (by omega)
          · exact mt_snoc_one_nil hc _
      have := none_ (i - (j + 1)) (by omega)
      rw [show j + 1 + (i - (j + 1)) = i by omega] at this
      rw [this]
  intro d
  induction d with
  | zero =>
    intro k j x hd hj hl hx hs hk
    obtain ⟨k, rfl⟩ : ∃ m, k = m + 2 := ⟨k - 2, by omega⟩
    refine ⟨k, x, by omega, fin j x hj hl hx hs (fun h => by omega), ?_⟩
    rw [refectoryref05_fits.l0, if_neg (by omega), refectoryref05_fits.j1]
  | succ d ih =>
    intro k j x hd hj hl hx hs hk
    obtain ⟨k, rfl⟩ : ∃ m, k = m + 2 := ⟨k - 2, by omega⟩
    by_cases hjl : j < P.length
    · rw [refectoryref05_fits.l0, if_pos (by omega), if_pos (by omega)]
      have hr : rd P (j : Int) = P.getD j 0 := by unfold rd; rw [Int.toNat_natCast]
      rw [hr]
      by_cases h42 : P.getD j 0 = 42
      · rw [if_pos h42, w64n (by omega), if_pos (by omega), if_pos (by omega), Int.toNat_natCast]
        obtain ⟨k', y, h1, h2, h3⟩ := ih (k + 1) (j + 1) (x.set (j + 1) true) (by omega) (by omega) (by simp [hl]) (fun i hi => by
          rw [getD_set _ _ _ _ (by omega)]
          split
          · rename_i e
            rw [decide_eq_true (by omega)]
          · rw [hx i hi]
            exact decide_eq_decide.2 (by omega)) (fun i hi => by
          by_cases e : i = j
          · subst e; exact h42
          · exact hs i (by omega)) (by omega)
        exact ⟨k', y, by omega, h2, h3⟩
      · rw [if_neg h42, refectoryref05_fits.j1]
        exact ⟨k, x, by omega, fin j x hj hl hx hs (fun _ => h42), rfl⟩
    · rw [refectoryref05_fits.l0, if_neg (by omega), refectoryref05_fits.j1]
      exact ⟨k, x, by omega, fin j x hj hl hx hs (fun h => absurd h hjl), rfl⟩

/-- A row from the one ahead of it. -/
def NextIs (P t : List Int) (c : Int) (j : Nat) (y : List Bool) : Prop := y.length = P.length + 1 ∧ ∀ i, i ≤ P.length → y.getD i false = if i ≤ j then mt (P.take i) (t ++ [c]) else false
theorem NextIs.set {P t : List Int} {c : Int} {j : Nat} {y : List Bool} (h : NextIs P t c j y) (hj : j < P.length) (b : Bool) (hb : b = mt (P.take (j + 1)) (t ++ [c])) : NextIs P t c (j + 1) (y.set (j + 1) b) := by
  refine ⟨by rw [List.length_set]; exact h.1, fun i hi => ?_⟩
  rw [getD_set _ _ _ _ (by rw [h.1]; omega)]
  by_cases e : i = j + 1
  · rw [if_pos e, if_pos (by omega), e, hb]
  · rw [if_neg e, h.2 i hi]
    by_cases e2 : i ≤ j
    · rw [if_pos e2, if_pos (by omega)]
    · rw [if_neg e2, if_neg (by omega)]
theorem NextIs.keep {P t : List Int} {c : Int} {j : Nat} {y : List Bool} (h : NextIs P t c j y) (hj : j < P.length) (hb : mt (P.take (j + 1)) (t ++ [c]) = false) : NextIs P t c (j + 1) y := by
  refine ⟨h.1, fun i hi => ?_⟩
  rw [h.2 i hi]
  by_cases e : i = j + 1
  · rw [if_neg (by omega), if_pos (by omega), e, hb]
  · by_cases e2 : i ≤ j
    · rw [if_pos e2, if_pos (by omega)]
    · rw [if_neg e2, if_neg (by omega)]

theorem fits_l2 (P T : List Int) (hP : P.length ≤ 100) (hT : T.length ≤ 1000) (i : Nat) (hi : i < T.length) (x : List Bool) (hx : RowIs P (T.take i) x) : ∀ (d k j : Nat) (y : List Bool), P.length - j ≤ d → j ≤ P.length → NextIs P (T.take i) (T.getD i 0) j y → d + 1 ≤ k →
    ∃ k' z, k ≤ k' + d + 1 ∧ RowIs P (T.take (i + 1)) z ∧ refectoryref05_fits.l2 k P T x i y j = refectoryref05_fits.l1 k' P T z ((i + 1 : Nat) : Int) := by
  have fin : ∀ y, NextIs P (T.take i) (T.getD i 0) P.length y → RowIs P (T.take (i + 1)) y := fun y h => ⟨h.1, fun j hj => by rw [h.2 j hj, if_pos hj, take_snoc hi]⟩
  intro d
  induction d with
  | zero =>
    intro k j y hd hj hy hk
    obtain ⟨k, rfl⟩ : ∃ m, k = m + 1 := ⟨k - 1, by omega⟩
    obtain rfl : j = P.length := by omega
    refine ⟨k, y, by omega, fin y hy, ?_⟩
    rw [refectoryref05_fits.l2, if_neg (by omega), w64n (by omega)]
  | succ d ih =>
    intro k j y hd hj hy hk
    obtain ⟨k, rfl⟩ : ∃ m, k = m + 1 := ⟨k - 1, by omega⟩
    by_cases hjl : j < P.length
    · have hr : rd P (j : Int) = P.getD j 0 := by unfold rd; rw [Int.toNat_natCast]
      have hrT : rd T (i : Int) = T.getD i 0 := by unfold rd; rw [Int.toNat_natCast]
      have x0 : rdOf false x (j : Int) = mt (P.take j) (T.take i) := by unfold rdOf; rw [Int.toNat_natCast]; exact hx.2 j (by omega)
      have x1 : rdOf false x ((j + 1 : Nat) : Int) = mt (P.take (j + 1)) (T.take i) := by unfold rdOf; rw [Int.toNat_natCast]; exact hx.2 (j + 1) (by omega)
      have y0 : rdOf false y (j : Int) = mt (P.take j) (T.take i ++ [T.getD i 0]) := by unfold rdOf; rw [Int.toNat_natCast, hy.2 j (by omega), if_pos (Nat.le_refl _)]
      have lx := hx.1
      have ly := hy.1
      have next : ∀ (b : Bool), b = mt (P.take (j + 1)) (T.take i ++ [T.getD i 0]) → ∃ k' z, k + 1 ≤ k' + (d + 1) + 1 ∧ RowIs P (T.take (i + 1)) z ∧ refectoryref05_fits.l2 k P T x i (y.set (j + 1) b) ((j + 1 : Nat) : Int) = refectoryref05_fits.l1 k' P T z ((i + 1 : Nat) : Int) := by
        intro b hb
        obtain ⟨k', z, h1, h2, h3⟩ := ih k (j + 1) _ (by omega) (by omega) (hy.set hjl b hb) (by omega)
        exact ⟨k', z, by omega, h2, h3⟩
      rw [refectoryref05_fits.l2, if_pos (by omega), if_pos (by omega), hr, hrT, w64n (by omega), Int.toNat_natCast, x0, x1, y0]
      have t1 : P.take (j + 1) = P.take j ++ [P.getD j 0] := take_snoc hjl
      by_cases h42 : P.getD j 0 = 42
      · rw [h42] at t1
        have e := mt_snoc_star_snoc (P.take j) (T.take i) (T.getD i 0)
        rw [← t1] at e
        rw [if_pos h42, if_pos (by omega), if_pos (by omega)]
        by_cases c1 : mt (P.take (j + 1)) (T.take i) = true
        · rw [if_pos c1, if_pos (by omega)]
          exact next true (by rw [e, c1]; rfl)
        · have c0 : ¬ mt (P.take j) (T.take i) = true := by
            intro h
            apply c1
            rw [t1, mt_snoc_star]
            exact ⟨T.take i, [], by simp, h⟩
          rw [if_neg c1, if_pos (by omega), if_neg c0, if_pos (by omega), if_pos (by omega)]
          rw [Bool.not_eq_true] at c1
          exact next _ (by rw [e, c1, Bool.false_or])
      · have e := mt_snoc_one h42 (P.take j) (T.take i) (T.getD i 0)
        rw [← t1] at e
        unfold okc at e
        rw [if_neg h42]
        by_cases h63 : P.getD j 0 = 63
        · rw [if_pos h63, if_pos (by omega), if_pos (by omega), if_pos (by omega)]
          exact next _ (by rw [e, decide_eq_true h63, Bool.true_or, Bool.true_and])
        · rw [if_neg h63, if_pos (by omega), if_pos (by omega)]
          by_cases hc : P.getD j 0 = T.getD i 0
          · rw [if_pos hc, if_pos (by omega), if_pos (by omega), if_pos (by omega)]
            exact next _ (by rw [e, decide_eq_true hc, Bool.or_true, Bool.true_and])
          · rw [if_neg hc]
            obtain ⟨k', z, h1, h2, h3⟩ := ih k (j + 1) y (by omega) (by omega) (hy.keep hjl (by rw [e, decide_eq_false h63, decide_eq_false hc]; rfl)) (by omega)
            exact ⟨k', z, by omega, h2, h3⟩
    · obtain rfl : j = P.length := by omega
      refine ⟨k, y, by omega, fin y hy, ?_⟩
      rw [refectoryref05_fits.l2, if_neg (by omega), w64n (by omega)]
theorem fits_l1 (P T : List Int) (hP : P.length ≤ 100) (hT : T.length ≤ 1000) : ∀ (d k i : Nat) (x : List Bool), T.length - i ≤ d → i ≤ T.length → RowIs P (T.take i) x → d * (P.length + 3) + 1 ≤ k →
    refectoryref05_fits.l1 k P T x i = some (mt P T) := by
  intro d
  induction d with
  | zero =>
    intro k i x hd hi hx hk
    obtain ⟨k, rfl⟩ : ∃ m, k = m + 1 := ⟨k - 1, by omega⟩
    have hl := hx.1
    rw [refectoryref05_fits.l1, if_neg (by omega), if_pos (by omega), if_pos (by omega)]
    unfold rdOf
    rw [Int.toNat_natCast, hx.2 _ (Nat.le_refl _), List.take_length, List.take_of_length_le (by omega)]
  | succ d ih =>
    intro k i x hd hi hx hk
    rw [Nat.add_mul, Nat.one_mul] at hk
    obtain ⟨k, rfl⟩ : ∃ m, k = m + 1 := ⟨k - 1, by omega⟩
    have hl := hx.1
    by_cases h : i < T.length
    · rw [refectoryref05_fits.l1, if_pos (by omega), w64n (by omega), if_pos (by omega), if_pos (by omega), Int.toNat_natCast]
      have h0 : NextIs P (T.take i) (T.getD i 0) 0 (List.replicate (P.length + 1) false) := by
        refine ⟨by simp, fun j hj => ?_⟩
        have e : (List.replicate (P.length + 1) false).getD j false = false := by
          rw [List.getD_eq_getElem?_getD, List.getElem?_replicate]
          split <;> rfl
        rw [e]
        split
        · obtain rfl : j = 0 := by omega
          rw [List.take_zero, mt_nil]
          cases T.take i <;> rfl
        · rfl
      obtain ⟨k', z, h1, h2, h3⟩ := fits_l2 P T hP hT i h x hx P.length k 0 _ (by omega) (by omega) h0 (by omega)
      rw [show ((0 : Nat) : Int) = 0 from rfl] at h3
      rw [h3]
      exact ih k' (i + 1) z (by omega) (by omega) h2 (by omega)
    · rw [refectoryref05_fits.l1, if_neg (by omega), if_pos (by omega), if_pos (by omega)]
      unfold rdOf
      rw [Int.toNat_natCast, hx.2 _ (Nat.le_refl _), List.take_length, List.take_of_length_le (by omega)]
theorem fits_eq (P T : List Int) (hP : P.length ≤ 64) (hT : T.length ≤ 256) (k : Nat) (hk : 20000 ≤ k) : refectoryref05_fits.f k P T = some (mt P T) := by
  unfold refectoryref05_fits.f
  rw [w64n (by omega), if_pos (by omega), if_pos (by omega), Option.bind_some, Int.toNat_natCast, List.length_replicate, if_pos (by omega)]
  obtain ⟨k', y, h1, h2, h3⟩ := fits_l0 P T (by omega) P.length k 0 ((List.replicate (P.length + 1) false).set 0 true) (by omega) (by omega) (by simp) (fun i hi => by
    rw [getD_set _ _ _ _ (by simp)]
    split
    · rename_i e
      rw [decide_eq_true (by omega)]
    · rw [decide_eq_false (by omega), List.getD_eq_getElem?_getD, List.getElem?_replicate]
      split <;> rfl) (fun i hi => by omega) (by omega)
  rw [show ((0 : Nat) : Int) = 0 from rfl] at h3
  rw [show (0 : Int).toNat = 0 from rfl, h3]
  have := fits_l1 P T (by omega) (by omega) T.length k' 0 y (by omega) (by omega) (by rw [List.take_zero]; exact h2) (by
    have : T.length * (P.length + 3) ≤ 256 * 67 := Nat.mul_le_mul hT (by omega)
    omega)
  exact this

/-! ### The letters, folded -/
theorem fold_l0 (s : ByteArray) (hs : s.size ≤ 17592186044415) : ∀ (d k i : Nat) (acc : List Int), s.size - i ≤ d → i ≤ s.size → acc.length ≤ i → d + 1 ≤ k →
    refectoryref02_Fold.l0 k s acc i = some (strOfNums (acc ++ (fold (s.data.toList.drop i)).map fun b => (b.toNat : Int))) := by
  intro d
  induction d with
  | zero =>
    intro k i acc hd hi ha hk
    obtain ⟨k, rfl⟩ : ∃ m, k = m + 1 := ⟨k - 1, by omega⟩
    rw [refectoryref02_Fold.l0, if_neg (by omega), List.drop_eq_nil_of_le (by rw [← size_eq]; omega)]
    simp [fold]
  | succ d ih =>
    intro k i acc hd hi ha hk
    obtain ⟨k, rfl⟩ : ∃ m, k = m + 1 := ⟨k - 1, by omega⟩
    by_cases h : i < s.size
    · have hb := bt_drop s i 0 (by omega)
      rw [Nat.add_zero] at hb
      have hlt : i < s.data.toList.length := by rw [← size_eq]; exact h
      have hd' : s.data.toList.drop i = s.data.toList[i] :: s.data.toList.drop (i + 1) := List.drop_eq_getElem_cons hlt
      rw [hd'] at hb
      simp only [List.getD_cons_zero] at hb
      have h256 := (s.data.toList[i]).toNat_lt
      have hz := foldB_nat s.data.toList[i]
      unfold foldN at hz
      rw [refectoryref02_Fold.l0, if_pos (by omega), if_pos (by omega), hb, hd', w64n (by omega)]
      have fin : ∀ z : Int, z = ((foldB s.data.toList[i]).toNat : Int) → (if acc.length < 140737488355328 then refectoryref02_Fold.l0 k s (acc ++ [z]) ((i + 1 : Nat) : Int) else none) = some (strOfNums (acc ++ (fold (s.data.toList[i] :: s.data.toList.drop (i + 1))).map fun b => (b.toNat : Int))) := by
        intro z hz
        rw [if_pos (by omega), ih k (i + 1) _ (by omega) (by omega) (by simp; omega) (by omega), hz]
        simp [fold]
      generalize s.data.toList[i] = c at *
      by_cases h1 : 65 ≤ c.toNat
      · rw [if_pos (by omega)]
        by_cases h2 : c.toNat ≤ 90
        · rw [if_pos (by omega)]
          rw [if_pos ⟨h1, h2⟩] at hz
          exact fin _ (by omega)
        · rw [if_neg (by omega)]
          rw [if_neg (by omega)] at hz
          exact fin _ (by omega)
      · rw [if_neg (by omega)]
        rw [if_neg (by omega)] at hz
        exact fin _ (by omega)
    · rw [refectoryref02_Fold.l0, if_neg (by omega), List.drop_eq_nil_of_le (by rw [← size_eq]; omega)]
      simp [fold]
theorem RFold_eq (s : ByteArray) (hs : s.size ≤ 17592186044415) (k : Nat) (hk : s.size + 1 ≤ k) : refectoryref02_Fold.f k s = some ⟨(fold s.data.toList).toArray⟩ := by
  unfold refectoryref02_Fold.f
  have := fold_l0 s hs s.size k 0 [] (by omega) (by omega) (by simp) hk
  rw [show ((0 : Nat) : Int) = 0 from rfl] at this
  rw [this]
  simp only [strOfNums, List.map_map, List.nil_append, List.drop_zero]
  congr 3
  rw [List.map_congr_left (g := fun b => b) (fun b _ => by simp), List.map_id']
theorem Rletters_eq (s : ByteArray) (hs : s.size ≤ 17592186044415) (k : Nat) (hk : s.size + 9 ≤ k) : refectoryref05_letters.f k s = some (fnums s.data.toList, valid s.data.toList) := by
  unfold refectoryref05_letters.f
  have hz : (⟨(fold s.data.toList).toArray⟩ : ByteArray).size = s.size := by rw [size_eq, List.toList_toArray, fold_length, ← size_eq]
  rw [RFold_eq s hs k (by omega), Option.bind_some, Letters_eq _ (by omega) k (by omega), Option.bind_some]
  show some (lnums (fold s.data.toList), valid (fold s.data.toList)) = _
  unfold lnums fnums flet
  rw [letters_fold, valid_fold]
theorem Rasked_eq (a b : ByteArray) (ha : a.size ≤ 17592186044415) (hb : b.size ≤ 17592186044415) (k : Nat) (hk : a.size + b.size + 10 ≤ k) :
    refectoryref05_asked.f k a b = some (if askE a.data.toList b.data.toList = 0 then (fnums a.data.toList, fnums b.data.toList, 0) else ([], [], askE a.data.toList b.data.toList)) := by
  obtain ⟨k, rfl⟩ : ∃ m, k = m + 1 := ⟨k - 1, by omega⟩
  unfold refectoryref05_asked.f
  rw [Rletters_eq a ha _ (by omega), Option.bind_some, Rletters_eq b hb _ (by omega), Option.bind_some]
  unfold askE
  generalize fnums a.data.toList = P
  generalize fnums b.data.toList = T
  cases valid a.data.toList <;> cases valid b.data.toList
  · simp [refectoryref05_asked.j0]
  · simp [refectoryref05_asked.j0]
  · simp [refectoryref05_asked.j0]
  · simp only [refectoryref05_asked.j0, Bool.not_true, if_true, and_self, Bool.false_eq_true, if_false]
    by_cases h1 : 64 < P.length
    · have e : (if 64 < P.length ∨ 256 < T.length then (3 : Int) else 0) = 3 := if_pos (.inl h1)
      rw [if_pos (by omega), e]
      rfl
    · rw [if_neg (by omega)]
      by_cases h2 : 256 < T.length
      · have e : (if 64 < P.length ∨ 256 < T.length then (3 : Int) else 0) = 3 := if_pos (.inr h2)
        rw [if_pos (by omega), e]
        rfl
      · have e : (if 64 < P.length ∨ 256 < T.length then (3 : Int) else 0) = 0 := if_neg (by omega)
        rw [if_neg (by omega), e]
        rfl
theorem ask_len {a b : List UInt8} (h : askE a b = 0) : (fnums a).length ≤ 64 ∧ (fnums b).length ≤ 256 := by
  unfold askE at h
  split at h
  · split at h
    · cases h
    · omega
  · cases h
theorem RFits_eq (a b : ByteArray) (ha : a.size ≤ 17592186044415) (hb : b.size ≤ 17592186044415) (k : Nat) (hk : a.size + b.size + 20010 ≤ k) :
    refectoryref05_Fits.f k a b = some (fitB a.data.toList b.data.toList, askE a.data.toList b.data.toList) := by
  unfold refectoryref05_Fits.f
  rw [Rasked_eq a b ha hb k (by omega), Option.bind_some]
  unfold fitB
  by_cases h : askE a.data.toList b.data.toList = 0
  · obtain ⟨h1, h2⟩ := ask_len h
    rw [if_pos h, if_pos h]
    dsimp only
    rw [if_pos rfl, fits_eq _ _ h1 h2 k (by omega), Option.bind_some, h]
  · rw [if_neg h, if_neg h]
    dsimp only
    rw [if_neg h]
end Go.Proofs.YtkdjkndnilmjmaaDoor.U
/- dir: the document's words on texts: is it one, alike, ahead. -/
set_option linter.unusedVariables false
set_option linter.unusedSimpArgs false
namespace Go.Proofs.YtkdjkndnilmjmaaDoor.U
open Go.RowKit Go.Proofs Go.Lib Go.Proofs.YtkdjkndnilmjmaaDoorW.PrintWords Go.Proofs.YtkdjkndnilmjmaaDoor.PR

theorem w64i {n : Nat} (h : n ≤ 9000000000000000000) : wrap64 ((n : Int) + 1) = ((n + 1 : Nat) : Int) := by rw [w64 (by omega) (by omega)]; omega
/-! ### Alike -/
theorem Rfold_eq (n : Nat) (h : n ≤ 9000000) : refectoryref02_fold.f (n : Int) = some ((foldN n : Nat) : Int) := by
  unfold refectoryref02_fold.f foldN
  by_cases h1 : 65 ≤ n
  · rw [if_pos (by omega)]
    by_cases h2 : n ≤ 90
    · rw [if_pos (by omega), if_pos ⟨h1, h2⟩, w64 (by omega) (by omega)]
      congr 1
    · rw [if_neg (by omega), if_neg (by omega)]
  · rw [if_neg (by omega), if_neg (by omega)]
theorem rd_nums (xs : List Nat) (i : Nat) : rd (xs.map fun n : Nat => (n : Int)) (i : Int) = ((xs.getD i 0 : Nat) : Int) := by
  unfold rd
  rw [Int.toNat_natCast, getD_nums]
theorem order_l0 (xs ys : List Nat) (hx : ∀ n ∈ xs, n ≤ 1114500) (hy : ∀ n ∈ ys, n ≤ 1114500) (lx : xs.length ≤ 17592186044416) (ly : ys.length ≤ 17592186044416) : ∀ (d k i : Nat), xs.length - i ≤ d → i ≤ xs.length → i ≤ ys.length → 2 * d + 2 ≤ k →
    refectoryref02_Order.l0 k (xs.map fun n : Nat => (n : Int)) (ys.map fun n : Nat => (n : Int)) i = some (ordN ((xs.drop i).map foldN) ((ys.drop i).map foldN)) := by
  have fin : ∀ (k i : Nat), i ≤ xs.length → i ≤ ys.length → (i = xs.length ∨ i = ys.length) → refectoryref02_Order.j1 (k + 1) (xs.map fun n : Nat => (n : Int)) (ys.map fun n : Nat => (n : Int)) i false = some (ordN ((xs.drop i).map foldN) ((ys.drop i).map foldN)) := by
    intro k i h1 h2 h3
    rw [refectoryref02_Order.j1, if_neg (by decide), List.length_map, List.length_map, w64 (by omega) (by omega)]
    rw [ordN_end _ _ (by rcases h3 with h3 | h3; left; rw [List.drop_eq_nil_of_le (by omega)]; rfl; right; rw [List.drop_eq_nil_of_le (by omega)]; rfl)]
    rw [List.length_map, List.length_map, List.length_drop, List.length_drop]
    congr 1
    omega
  intro d
  induction d with
  | zero =>
    intro k i hd h1 h2 hk
    obtain ⟨k, rfl⟩ : ∃ m, k = m + 1 + 1 := ⟨k - 2, by omega⟩
    rw [refectoryref02_Order.l0, if_neg (by rw [List.length_map]; omega)]
    exact fin k i h1 h2 (.inl (by omega))
  | succ d ih =>
    intro k i hd h1 h2 hk
    obtain ⟨k, rfl⟩ : ∃ m, k = m + 1 + 1 := ⟨k - 2, by omega⟩
    by_cases hi : i < xs.length
    · rw [refectoryref02_Order.l0, if_pos (by rw [List.length_map]; omega)]
      by_cases hj : i < ys.length
      · rw [decide_eq_true (by rw [List.length_map]; omega)]
        rw [refectoryref02_Order.j1, if_pos rfl, if_pos (by omega), if_pos (by rw [List.length_map]; omega), rd_nums, rd_nums]
        have bx : xs.getD i 0 ≤ 1114500 := hx _ (by rw [List.getD_eq_getElem?_getD, List.getElem?_eq_getElem hi]; exact List.getElem_mem hi)
        have by' : ys.getD i 0 ≤ 1114500 := hy _ (by rw [List.getD_eq_getElem?_getD, List.getElem?_eq_getElem hj]; exact List.getElem_mem hj)
        rw [Rfold_eq _ (by omega), Option.bind_some, if_pos (by rw [List.length_map]; omega), Rfold_eq _ (by omega), Option.bind_some]
        rw [drop_cons hi, drop_cons hj, List.map_cons, List.map_cons, ordN_cons]
        by_cases he : foldN (xs.getD i 0) = foldN (ys.getD i 0)
        · rw [if_pos (by rw [he]), if_pos he, w64i (by omega), ih k (i + 1) (by omega) (by omega) (by omega) (by omega)]
        · rw [if_neg (by omega), if_neg he, Option.bind_some, Option.bind_some]
          have fx : foldN (xs.getD i 0) ≤ 1114600 := by unfold foldN; split <;> omega
          have fy : foldN (ys.getD i 0) ≤ 1114600 := by unfold foldN; split <;> omega
          rw [w64 (by omega) (by omega)]
      · rw [decide_eq_false (by rw [List.length_map]; omega)]
        exact fin k i h1 h2 (.inr (by omega))
    · rw [refectoryref02_Order.l0, if_neg (by rw [List.length_map]; omega)]
      exact fin k i h1 h2 (.inl (by omega))
theorem RAlike_eq (a b : ByteArray) (ha : a.size ≤ 17592186044415) (hb : b.size ≤ 17592186044415) (k : Nat) (hk : 2 * a.size + b.size + 20 ≤ k) : refectoryref02_Alike.f k a b = some (alikeB a.data.toList b.data.toList) := by
  unfold refectoryref02_Alike.f refectoryref02_Order.f
  rw [Letters_eq a ha k (by omega), Option.bind_some, Letters_eq b hb k (by omega), Option.bind_some]
  have la := letters_len a.data.toList
  have lb := letters_len b.data.toList
  rw [← size_eq] at la lb
  have := order_l0 (letters a.data.toList) (letters b.data.toList) (letters_bound _) (letters_bound _) (by omega) (by omega) a.size k 0 (by omega) (by omega) (by omega) (by omega)
  rw [show ((0 : Nat) : Int) = 0 from rfl] at this
  show ((refectoryref02_Order.l0 k (lnums a.data.toList) (lnums b.data.toList) 0).bind fun t => some (t == 0)) = _
  unfold lnums
  rw [this, Option.bind_some, List.drop_zero, List.drop_zero]
  unfold alikeB flet
  rfl
theorem RAhead_eq (a b : ByteArray) (ha : a.size ≤ 17592186044415) (hb : b.size ≤ 17592186044415) (k : Nat) (hk : 2 * a.size + b.size + 20 ≤ k) : refectoryref02_Ahead.f k a b = some (aheadB a.data.toList b.data.toList) := by
  unfold refectoryref02_Ahead.f refectoryref02_Order.f
  rw [Letters_eq a ha k (by omega), Option.bind_some, Letters_eq b hb k (by omega), Option.bind_some]
  have la := letters_len a.data.toList
  have lb := letters_len b.data.toList
  rw [← size_eq] at la lb
  have := order_l0 (letters a.data.toList) (letters b.data.toList) (letters_bound _) (letters_bound _) (by omega) (by omega) a.size k 0 (by omega) (by omega) (by omega) (by omega)
  rw [show ((0 : Nat) : Int) = 0 from rfl] at this
  show ((refectoryref02_Order.l0 k (lnums a.data.toList) (lnums b.data.toList) 0).bind fun t => some (decide (t < 0))) = _
  unfold lnums
  rw [this, Option.bind_some, List.drop_zero, List.drop_zero]
  unfold aheadB flet
  rfl
theorem RIs_eq (s : ByteArray) (hs : s.size ≤ 17592186044415) : refectoryref02_Is.f (s.size + 9) s = some (valid s.data.toList) := by
  unfold refectoryref02_Is.f
  rw [Letters_eq s hs _ (Nat.le_refl _), Option.bind_some]
theorem RAlike_calls (a b : ByteArray) (w : World) (ha : a.size ≤ 1048576) (hb : b.size ≤ 1048576) :
    Calls Tryd.prog 58 #[.string a, .string b] w fun e w' => e = .returned (.bool (al a b)) ∧ Below w.heap.size w w' :=
  refectoryref02_Alike.calls _ a b _ w (RAlike_eq a b (by omega) (by omega) _ (Nat.le_refl _))
theorem RAhead_calls (a b : ByteArray) (w : World) (ha : a.size ≤ 1048576) (hb : b.size ≤ 1048576) :
    Calls Tryd.prog 31 #[.string a, .string b] w fun e w' => e = .returned (.bool (ah a b)) ∧ Below w.heap.size w w' :=
  refectoryref02_Ahead.calls _ a b _ w (RAhead_eq a b (by omega) (by omega) _ (Nat.le_refl _))
theorem RIs_calls (s : ByteArray) (w : World) (hs : s.size ≤ 1048576) :
    Calls Tryd.prog 30 #[.string s] w fun e w' => e = .returned (.bool (valid (bts s))) ∧ Below w.heap.size w w' :=
  refectoryref02_Is.calls _ s _ w (RIs_eq s (by omega))
end Go.Proofs.YtkdjkndnilmjmaaDoor.U
/- dir: the document's directory in memory; at, Find. -/
set_option linter.unusedVariables false
set_option linter.unusedSimpArgs false
namespace Go.Proofs.YtkdjkndnilmjmaaDoor.U
open Go.RowKit Go.Proofs Go.Lib Go.Proofs.YtkdjkndnilmjmaaDoorW.PrintWords

def items (l : List Ent) : List Value := l.flatMap fun x => [.string x.name, .int .i64 x.n]
theorem items_len : ∀ l : List Ent, (items l).length = l.length * 2
  | [] => rfl
  | x :: t => by
    have := items_len t
    unfold items at this ⊢
    rw [List.flatMap_cons, List.length_append, this, List.length_cons]
    simp
    omega
theorem items_at : ∀ (l : List Ent) (j : Nat) (x : Ent), l[j]? = some x → (items l)[j * 2]? = some (.string x.name) ∧ (items l)[j * 2 + 1]? = some (.int .i64 x.n)
  | [], j, x, h => by simp at h
  | y :: t, 0, x, h => by
    simp at h
    subst h
    exact ⟨rfl, rfl⟩
  | y :: t, j + 1, x, h => by
    have h' : t[j]? = some x := by simpa using h
    obtain ⟨h1, h2⟩ := items_at t j x h'
    have e : items (y :: t) = .string y.name :: .int .i64 y.n :: items t := by simp [items]
    rw [e, show (j + 1) * 2 = j * 2 + 1 + 1 by omega]
    exact ⟨h1, h2⟩
theorem items_one (l : List Ent) : ∀ u ∈ items l, u.oneCell' = true := by
  intro u hu
  simp only [items, List.mem_flatMap, List.mem_cons, List.not_mem_nil, or_false] at hu
  obtain ⟨a, _, rfl | rfl⟩ := hu <;> rfl
theorem items_append (a b : List Ent) : items (a ++ b) = items a ++ items b := by simp [items]
structure RefD (w : World) (base R : Nat) (l : List Ent) (vL : Value) : Prop where
  head : w.heap[R]? = some (.cells #[vL] 53 (0, 0))
  row : w.ownsRow base 64 2 vL l.length (items l)
  bR : base ≤ R
section
variable {w w1 : World} {base R : Nat} {l : List Ent} {vL : Value}
theorem RefD.below (h : RefD w base R l vL) (hb : Below w.heap.size w w1) : RefD w1 base R l vL := by
  refine ⟨kept_below hb _ _ h.head, own_stay h.row fun k hk => ?_, h.bR⟩
  obtain ⟨cs, hc⟩ := own_type h.row k hk
  rw [kept_below hb _ _ hc, hc]
theorem RefD.lt (h : RefD w base R l vL) : R < w.heap.size := (Array.getElem?_eq_some_iff.1 h.head).1
theorem RefD.c0 (h : RefD w base R l vL) : w.cell? ⟨R, 0, none⟩ = some vL := by rw [Lib.cell_of_heap h.head]; rfl
theorem RefD.f (h : RefD w base R l vL) (j : Nat) : w.frozen? ⟨R, j, none⟩ = false := Lib.frozen_of_heap h.head j
theorem RefD.item (h : RefD w base R l vL) {i : Nat} {x : Ent} (hi : l[i]? = some x) : ∃ g c, vL = .slice (some ⟨g, 0, none⟩) l.length c ∧ g < w.heap.size ∧ w.cell? ⟨g, i * 2, none⟩ = some (.string x.name) ∧ w.cell? ⟨g, i * 2 + 1, none⟩ = some (.int .i64 x.n) := by
  have hlt := (List.getElem?_eq_some_iff.1 hi).1
  obtain ⟨A, c, e, hc, h1 | ⟨g, rfl, hg⟩⟩ := own_form h.row
  · omega
  · have hr := h.row
    rw [e] at hr
    obtain ⟨i1, i2⟩ := items_at l i x hi
    exact ⟨g, c, e, hg, (hr.cellAt (i * 2) (by omega)).trans i1, (hr.cellAt (i * 2 + 1) (by omega)).trans i2⟩
end
theorem hit_at {l : List Ent} (hr : Rise l) {s : ByteArray} {i : Nat} {x : Ent} (hi : l[i]? = some x) (ha : al x.name s = true) : fnd l s = some x ∧ plc l s = i := by
  cases hf : fnd l s with
  | none =>
    have := fnd_none hf x (List.mem_of_getElem? hi)
    rw [ha] at this
    cases this
  | some y =>
    have hy := fnd_at hr hf
    have hys := (fnd_some hf).2
    have hyx : al y.name x.name = true := al_trans hys (al_symm ha)
    obtain ⟨p1, p2⟩ := List.getElem?_eq_some_iff.1 hy
    obtain ⟨p3, p4⟩ := List.getElem?_eq_some_iff.1 hi
    have no : ∀ a b : ByteArray, al a b = true → ah a b = true → False := fun a b h1 h2 => by
      rcases ah_one a b with ⟨_, _, h3⟩ | ⟨h3, _, _⟩ | ⟨h3, _, _⟩
      · rw [h1] at h3; cases h3
      · rw [h2] at h3; cases h3
      · rw [h2] at h3; cases h3
    have he : plc l s = i := by
      rcases Nat.lt_trichotomy (plc l s) i with h | h | h
      · have h2 := List.pairwise_iff_getElem.1 hr _ _ p1 p3 h
        rw [p2, p4] at h2
        exact (no _ _ hyx h2).elim
      · exact h
      · have h2 := List.pairwise_iff_getElem.1 hr _ _ p3 p1 h
        rw [p2, p4] at h2
        exact (no _ _ (al_symm hyx) h2).elim
    refine ⟨?_, he⟩
    rw [he, hi] at hy
    exact hy.symm
/-- Where one that is alike stands; -1: none. -/
def atI (l : List Ent) (s : ByteArray) : Int := if (fnd l s).isSome then (plc l s : Int) else -1
section
variable {w w1 : World} {base R : Nat} {l : List Ent} {vL : Value}
set_option maxHeartbeats 4000000 in
set_option maxRecDepth 1000000 in
theorem Rat_calls (s : ByteArray) (h : RefD w base R l vL) (hr : Rise l) (ht : ∀ x ∈ l, x.name.size ≤ 1048576) (hs : s.size ≤ 1048576) (hl : l.length ≤ 1000) :
    Calls Tryd.prog 57 #[.pointer (some ⟨R, 0, none⟩), .string s] w fun e w' => e = .returned (.int .i64 (atI l s)) ∧ Below w.heap.size w w' := by
  obtain ⟨A, c, rfl, _⟩ := own_form h.row
  obtain ⟨n, hn⟩ : ∃ n, l.length = n := ⟨_, rfl⟩
  obtain ⟨r, hrr⟩ : ∃ r, atI l s = r := ⟨_, rfl⟩
  have HR := Lib.hid hrr
  have HRI := Lib.hid hr
  have HT := Lib.hid ht
  rw [hn] at h hl
  rw [hrr]
  have HH : Hid (RefD w base R l (.slice A n c)) := Lib.hid h
  have HN := Lib.hid hn
  clear h hn hrr hr ht
  go_enter Tryd.func57, Tryd.ntmps57
  go_wp2_with fail
  go_loopg [5] n (fun g v5 wr => ∃ i : Nat, v5 = .int .i64 (i : Int) ∧ i + g = n ∧ (∀ j x, j < i → l[j]? = some x → al x.name s = false) ∧ Below w.heap.size w wr)
  case atStart => exact ⟨0, rfl, Nat.zero_add _, fun j x hj => absurd hj (Nat.not_lt_zero _), Below.refl _ _⟩
  case round =>
    obtain ⟨i, rfl, hig, hno, hbw⟩ := hrel
    have HIG := Lib.hid hig
    have HNO := Lib.hid hno
    have HBW := Lib.hid hbw
    have q0 := (HH.out.below hbw).c0
    clear hno hbw
    by_cases hin : i < n
    · have d1 : decide ((i : Int) < (n : Int)) = true := by simp; omega
      have i1 : (i : Int) < (n : Int) := by omega
      obtain ⟨x, hx⟩ : ∃ x, l[i]? = some x := ⟨_, List.getElem?_eq_getElem (by rw [HN.out]; exact hin)⟩
      obtain ⟨g, c', e, hg, q1, _⟩ := (HH.out.below HBW.out).item hx
      injection e with e _ _
      subst e
      have cA := fun W => RAlike_calls x.name s W (HT.out x (List.mem_of_getElem? hx)) hs
      obtain ⟨b, hb⟩ : ∃ b, al x.name s = b := ⟨_, rfl⟩
      rw [hb] at cA
      have CA := Lib.hid cA
      have HB := Lib.hid hb
      have HX := Lib.hid hx
      clear cA hb hx
      cases b with
      | true =>
        obtain ⟨f1, f2⟩ := hit_at HRI.out HX.out HB.out
        have e1 : r = (i : Int) := by rw [← HR.out]; unfold atI; rw [f1, f2]; rfl
        have HE := Lib.hid e1
        clear f1 f2 e1
        go_wp2_with fail
        refine (CA.out _).mono ?_
        rintro e w5 ⟨rfl, hb5⟩
        have HB5 := Lib.hid (HBW.out.trans (hb5.mono HBW.out.size))
        clear hb5 CA
        go_wp2
        go_ret
        exact ⟨by rw [HE.out]; rfl, HB5.out⟩
      | false =>
        go_wp2_with fail
        refine (CA.out _).mono ?_
        rintro e w5 ⟨rfl, hb5⟩
        have HB5 := Lib.hid (HBW.out.trans (hb5.mono HBW.out.size))
        clear hb5 CA
        go_wp2_with fail
        go_roundg (gk - 1)
        case measure => have := HIG.out; omega
        case rel => exact ⟨i + 1, by rw [Int.natCast_succ], by have := HIG.out; omega, fun j y hj hy => by
          rcases Nat.lt_or_ge j i with h1 | h1
          · exact HNO.out j y h1 hy
          · obtain rfl : j = i := by omega
            rw [HX.out] at hy
            injection hy with hy
            rw [← hy]
            exact HB.out, HB5.out⟩
    · obtain rfl : i = n := by have := HIG.out; omega
      have d1 : decide ((i : Int) < (i : Int)) = false := by simp
      have e1 : r = -1 := by
        rw [← HR.out]
        unfold atI
        cases hf : fnd l s with
        | none => rfl
        | some x =>
          obtain ⟨m1, m2⟩ := fnd_some hf
          obtain ⟨j, hj⟩ := List.getElem?_of_mem m1
          have := HNO.out j x (by have := (List.getElem?_eq_some_iff.1 hj).1; rw [HN.out] at this; exact this) hj
          rw [m2] at this
          cases this
      have HE := Lib.hid e1
      clear e1
      go_wp2
      go_ret
      exact ⟨by rw [HE.out]; rfl, HBW.out⟩
end
end Go.Proofs.YtkdjkndnilmjmaaDoor.U
/- dir: the document's Find. -/
set_option linter.unusedVariables false
set_option linter.unusedSimpArgs false
namespace Go.Proofs.YtkdjkndnilmjmaaDoor.U
open Go.RowKit Go.Proofs Go.Lib Go.Proofs.YtkdjkndnilmjmaaDoorW.PrintWords

section
variable {w w1 : World} {base R : Nat} {l : List Ent} {vL : Value}
set_option maxHeartbeats 4000000 in
set_option maxRecDepth 1000000 in
theorem Rfind_empty (v : Value) :
    Calls Tryd.prog 42 #[v, .string ⟨#[]⟩] w fun e w' => e = .returned (.tuple #[.int .i64 0, .string ⟨#[]⟩, .int .i64 5]) ∧ Below w.heap.size w w' := by
  go_enter Tryd.func42, Tryd.ntmps42
  go_wp2
  go_ret3
  exact ⟨rfl, Below.refl _ _⟩
set_option maxHeartbeats 4000000 in
set_option maxRecDepth 1000000 in
theorem Rfind_form (v : Value) (s : ByteArray) (hne : s ≠ ⟨#[]⟩) (hv : valid (bts s) = false) (hs : s.size ≤ 1048576) :
    Calls Tryd.prog 42 #[v, .string s] w fun e w' => e = .returned (.tuple #[.int .i64 0, .string ⟨#[]⟩, .int .i64 5]) ∧ Below w.heap.size w w' := by
  have c2 := RIs_calls s w hs
  rw [hv] at c2
  have C2 := Lib.hid c2
  have d1 := list_ne hne
  have d2 := list_ne2 hne
  clear c2 hv
  go_enter Tryd.func42, Tryd.ntmps42
  go_wp2_with fail
  refine (C2.out).mono ?_
  rintro e w2 ⟨rfl, hb⟩
  go_wp2
  go_ret3
  exact ⟨rfl, hb⟩
set_option maxHeartbeats 8000000 in
set_option maxRecDepth 1000000 in
theorem Rfind_calls (s : ByteArray) (h : RefD w base R l vL) (hr : Rise l) (ht : ∀ x ∈ l, x.name.size ≤ 1048576) (hx : Txt s) (hl : l.length ≤ 1000) :
    Calls Tryd.prog 42 #[.pointer (some ⟨R, 0, none⟩), .string s] w fun e w' => e = .returned (.tuple #[.int .i64 (numOf l s), .string (ownOf l s), .int .i64 (errFnd l s)]) ∧ Below w.heap.size w w' := by
  have hsz := hx.sz
  have c2 := RIs_calls s w hsz
  rw [hx.ok] at c2
  have C2 := Lib.hid c2
  have d1 := list_ne hx.ne
  have d2 := list_ne2 hx.ne
  have c3 := fun W (hW : Below w.heap.size w W) => Rat_calls s (h.below hW) hr ht hsz hl
  have HH := Lib.hid h
  have HR := Lib.hid hr
  cases hf : fnd l s with
  | none =>
    have e1 : atI l s = -1 := by unfold atI; rw [hf]; rfl
    have e2 : numOf l s = 0 := by unfold numOf; rw [hf]; rfl
    have e3 : ownOf l s = ⟨#[]⟩ := by unfold ownOf; rw [hf]; rfl
    have e4 : errFnd l s = 7 := by unfold errFnd; rw [hf]; rfl
    rw [e1] at c3
    rw [e2, e3, e4]
    have C3 := Lib.hid c3
    clear c2 c3 h hr ht hx e1 e2 e3 e4 hf
    go_enter Tryd.func42, Tryd.ntmps42
    go_wp2_with fail
    refine (C2.out).mono ?_
    rintro e w2 ⟨rfl, hb⟩
    go_wp2_with fail
    refine (C3.out _ hb).mono ?_
    rintro e w3 ⟨rfl, hb3⟩
    have HB := Lib.hid (hb.trans (hb3.mono hb.size))
    clear hb hb3
    go_wp2
    go_ret3
    exact ⟨rfl, HB.out⟩
  | some x =>
    have hat := fnd_at hr hf
    obtain ⟨k, hk⟩ : ∃ k, plc l s = k := ⟨_, rfl⟩
    have e1 : atI l s = (k : Int) := by unfold atI; rw [hf, hk]; rfl
    have e2 : numOf l s = x.n := by unfold numOf; rw [hf]; rfl
    have e3 : ownOf l s = x.name := by unfold ownOf; rw [hf]; rfl
    have e4 : errFnd l s = 0 := by unfold errFnd; rw [hf]; rfl
    rw [hk] at hat
    rw [e1] at c3
    rw [e2, e3, e4]
    have C3 := Lib.hid c3
    have HAT := Lib.hid hat
    have hplt := (List.getElem?_eq_some_iff.1 hat).1
    obtain ⟨n, hn⟩ : ∃ n, l.length = n := ⟨_, rfl⟩
    have HN := Lib.hid hn
    rw [hn] at hplt hl
    have i1 : (k : Int) < (n : Int) := by omega
    clear c2 c3 h hr ht hx e1 e2 e3 e4 hf hat hk hn
    go_enter Tryd.func42, Tryd.ntmps42
    go_wp2_with fail
    refine (C2.out).mono ?_
    rintro e w2 ⟨rfl, hb⟩
    go_wp2_with fail
    refine (C3.out _ hb).mono ?_
    rintro e w3 ⟨rfl, hb3⟩
    have hb03 := (hb.trans (hb3.mono hb.size))
    have hb04 := hb03.trans ((below_drew1 (Below.refl w3.heap.size w3)).mono hb03.size)
    have h4 := HH.out.below hb04
    obtain ⟨g, c, rfl, hg, q1, q2⟩ := h4.item HAT.out
    have q0 := h4.c0
    rw [HN.out] at q0
    have HB := Lib.hid hb04
    clear hb hb3 hb03 hb04 h4 C2 C3
    go_wp2_with fail
    refine AnyL.start (fun w' => w'.cell? ⟨R, 0, none⟩ = some (.slice (some ⟨g, 0, none⟩) n c) ∧ w'.cell? ⟨g, k * 2, none⟩ = some (.string x.name) ∧ w'.cell? ⟨g, k * 2 + 1, none⟩ = some (.int .i64 x.n)) 99 (by kernel_rfl) ⟨q0, q1, q2⟩ (fun hHeld => ?_)
    refine AnyL.take (i := 0) (v := ?vy0) rfl (by kernel_rfl) (by kernel_rfl) (by kernel_rfl) (by kernel_rfl) (fun _ _ _ h => h) (by assumption) (Or.inl ⟨by rfl, ?y0⟩) ?ry0
    case y0 => (intro w hSw; (try dsimp only at hSw); go_simp; try with_reducible rfl)
    try simp only [Act.put, List.setIfInBounds_toArray, List.set_cons_zero, List.set_cons_succ]
    refine AnyL.take (i := 1) (v := ?vy1) rfl (by kernel_rfl) (by kernel_rfl) (by kernel_rfl) (by kernel_rfl) (fun _ _ _ h => h) (by assumption) (Or.inl ⟨by rfl, ?y1⟩) ?ry1
    case y1 => (intro w hSw; (try dsimp only at hSw); go_simp; try with_reducible rfl)
    try simp only [Act.put, List.setIfInBounds_toArray, List.set_cons_zero, List.set_cons_succ]
    refine AnyL.take (i := 2) (v := ?vy2) rfl (by kernel_rfl) (by kernel_rfl) (by kernel_rfl) (by kernel_rfl) (fun _ _ _ h => h) (by assumption) (Or.inl ⟨by rfl, ?y2⟩) ?ry2
    case y2 => (intro w hSw; (try dsimp only at hSw); go_simp; try with_reducible rfl)
    try simp only [Act.put, List.setIfInBounds_toArray, List.set_cons_zero, List.set_cons_succ]
    refine AnyL.take (i := 3) (v := ?vy3) rfl (by kernel_rfl) (by kernel_rfl) (by kernel_rfl) (by kernel_rfl) (fun _ _ _ h => h) (by assumption) (Or.inl ⟨by rfl, ?y3⟩) ?ry3
    case y3 => (intro w hSw; (try dsimp only at hSw); go_simp; try with_reducible rfl)
    try simp only [Act.put, List.setIfInBounds_toArray, List.set_cons_zero, List.set_cons_succ]
    refine AnyL.take (i := 4) (v := ?vy4) rfl (by kernel_rfl) (by kernel_rfl) (by kernel_rfl) (by kernel_rfl) (fun _ _ _ h => h) (by assumption) (Or.inl ⟨by rfl, ?y4⟩) ?ry4
    case y4 => (intro w hSw; (try dsimp only at hSw); go_simp; try with_reducible rfl)
    try simp only [Act.put, List.setIfInBounds_toArray, List.set_cons_zero, List.set_cons_succ]
    refine AnyL.take (i := 5) (v := ?vy5) rfl (by kernel_rfl) (by kernel_rfl) (by kernel_rfl) (by kernel_rfl) (fun _ _ _ h => h) (by assumption) (Or.inl ⟨by rfl, ?y5⟩) ?ry5
    case y5 => (intro w hSw; (try dsimp only at hSw); go_simp; try with_reducible rfl)
    try simp only [Act.put, List.setIfInBounds_toArray, List.set_cons_zero, List.set_cons_succ]
    refine AnyL.take (i := 6) (v := ?vy6) rfl (by kernel_rfl) (by kernel_rfl) (by kernel_rfl) (by kernel_rfl) (fun _ _ _ h => h) (by assumption) (Or.inl ⟨by rfl, ?y6⟩) ?ry6
    case y6 => (intro w hSw; (try dsimp only at hSw); go_simp; try with_reducible rfl)
    try simp only [Act.put, List.setIfInBounds_toArray, List.set_cons_zero, List.set_cons_succ]
    refine AnyL.take (i := 7) (v := ?vy7) rfl (by kernel_rfl) (by kernel_rfl) (by kernel_rfl) (by kernel_rfl) (fun _ _ _ h => h) (by assumption) (Or.inl ⟨by rfl, ?y7⟩) ?ry7
    case y7 => (intro w hSw; (try dsimp only at hSw); go_simp; try with_reducible rfl)
    try simp only [Act.put, List.setIfInBounds_toArray, List.set_cons_zero, List.set_cons_succ]
    refine AnyL.take (i := 8) (v := ?vy8) rfl (by kernel_rfl) (by kernel_rfl) (by kernel_rfl) (by kernel_rfl) (fun _ _ _ h => h) (by assumption) (Or.inl ⟨by rfl, ?y8⟩) ?ry8
    case y8 => (intro w hSw; (try dsimp only at hSw); go_simp; try with_reducible rfl)
    try simp only [Act.put, List.setIfInBounds_toArray, List.set_cons_zero, List.set_cons_succ]
    refine AnyL.take (i := 9) (v := ?vy9) rfl (by kernel_rfl) (by kernel_rfl) (by kernel_rfl) (by kernel_rfl) (fun _ _ _ h => h) (by assumption) (Or.inl ⟨by rfl, ?y9⟩) ?ry9
    case y9 => (intro w hSw; (try dsimp only at hSw); go_simp; try with_reducible rfl)
    try simp only [Act.put, List.setIfInBounds_toArray, List.set_cons_zero, List.set_cons_succ]
    refine AnyL.take (i := 10) (v := ?vy10) rfl (by kernel_rfl) (by kernel_rfl) (by kernel_rfl) (by kernel_rfl) (fun _ _ _ h => h) (by assumption) (Or.inl ⟨by rfl, ?y10⟩) ?ry10
    case y10 => (intro w hSw; (try dsimp only at hSw); go_simp; try with_reducible rfl)
    try simp only [Act.put, List.setIfInBounds_toArray, List.set_cons_zero, List.set_cons_succ]
    refine AnyL.take (i := 11) (v := ?vy11) rfl (by kernel_rfl) (by kernel_rfl) (by kernel_rfl) (by kernel_rfl) (fun _ _ _ h => h) (by assumption) (Or.inl ⟨by rfl, ?y11⟩) ?ry11
    case y11 => (intro w hSw; (try dsimp only at hSw); go_simp; try with_reducible rfl)
    try simp only [Act.put, List.setIfInBounds_toArray, List.set_cons_zero, List.set_cons_succ]
    refine AnyL.take (i := 12) (v := ?vy12) rfl (by kernel_rfl) (by kernel_rfl) (by kernel_rfl) (by kernel_rfl) (fun _ _ _ h => h) (by assumption) (Or.inl ⟨by rfl, ?y12⟩) ?ry12
    case y12 => (intro w hSw; (try dsimp only at hSw); go_simp; try with_reducible rfl)
    try simp only [Act.put, List.setIfInBounds_toArray, List.set_cons_zero, List.set_cons_succ]
    refine AnyL.take (i := 13) (v := ?vy13) rfl (by kernel_rfl) (by kernel_rfl) (by kernel_rfl) (by kernel_rfl) (fun _ _ _ h => h) (by assumption) (Or.inl ⟨by rfl, ?y13⟩) ?ry13
    case y13 => (intro w hSw; (try dsimp only at hSw); go_simp; try with_reducible rfl)
    try simp only [Act.put, List.setIfInBounds_toArray, List.set_cons_zero, List.set_cons_succ]
    refine AnyL.take (i := 14) (v := ?vy14) rfl (by kernel_rfl) (by kernel_rfl) (by kernel_rfl) (by kernel_rfl) (fun _ _ _ h => h) (by assumption) (Or.inl ⟨by rfl, ?y14⟩) ?ry14
    case y14 => (intro w hSw; (try dsimp only at hSw); go_simp; try with_reducible rfl)
    try simp only [Act.put, List.setIfInBounds_toArray, List.set_cons_zero, List.set_cons_succ]
    refine AnyL.take (i := 15) (v := ?vy15) rfl (by kernel_rfl) (by kernel_rfl) (by kernel_rfl) (by kernel_rfl) (fun _ _ _ h => h) (by assumption) (Or.inl ⟨by rfl, ?y15⟩) ?ry15
    case y15 => (intro w hSw; (try dsimp only at hSw); go_simp; try with_reducible rfl)
    try simp only [Act.put, List.setIfInBounds_toArray, List.set_cons_zero, List.set_cons_succ]
    refine AnyL.take (i := 16) (v := ?vy16) rfl (by kernel_rfl) (by kernel_rfl) (by kernel_rfl) (by kernel_rfl) (fun _ _ _ h => h) (by assumption) (Or.inl ⟨by rfl, ?y16⟩) ?ry16
    case y16 => (intro w hSw; (try dsimp only at hSw); go_simp; try with_reducible rfl)
    try simp only [Act.put, List.setIfInBounds_toArray, List.set_cons_zero, List.set_cons_succ]
    refine AnyL.take (i := 17) (v := ?vy17) rfl (by kernel_rfl) (by kernel_rfl) (by kernel_rfl) (by kernel_rfl) (fun _ _ _ h => h) (by assumption) (Or.inl ⟨by rfl, ?y17⟩) ?ry17
    case y17 => (intro w hSw; (try dsimp only at hSw); go_simp; try with_reducible rfl)
    try simp only [Act.put, List.setIfInBounds_toArray, List.set_cons_zero, List.set_cons_succ]
    refine AnyL.take (i := 18) (v := ?vy18) rfl (by kernel_rfl) (by kernel_rfl) (by kernel_rfl) (by kernel_rfl) (fun _ _ _ h => h) (by assumption) (Or.inl ⟨by rfl, ?y18⟩) ?ry18
    case y18 => (intro w hSw; (try dsimp only at hSw); go_simp; try with_reducible rfl)
    try simp only [Act.put, List.setIfInBounds_toArray, List.set_cons_zero, List.set_cons_succ]
    refine AnyL.done (by kernel_rfl) ?_ _
    clear hHeld q0 q1 q2
    go_wp2
    go_ret3
    exact ⟨rfl, HB.out⟩
end
end Go.Proofs.YtkdjkndnilmjmaaDoor.U
/- dir: the document's Add. -/
set_option linter.unusedVariables false
set_option linter.unusedSimpArgs false
namespace Go.Proofs.YtkdjkndnilmjmaaDoor.U
open Go.RowKit Go.Proofs Go.Lib Go.Proofs.YtkdjkndnilmjmaaDoorW.PrintWords

theorem infoI : (Tryd.prog.info? 64).map (fun i => (i.zero, i.size, i.bytes)) = some (some (.agg #[.string ⟨#[]⟩, .int .i64 0]), 2, 24) := by kernel_rfl
/-- One item more. -/
theorem run_item (w : World) (base : Nat) (ty : TypeId) (v : Value) (a : List Ent) (x : Ent) (V c : Nat) (fz : Nat × Nat) (hown : w.ownsRow base 64 2 v a.length (items a)) (hV : w.heap[V]? = some (.cells #[.string x.name, .int .i64 x.n] 64 fz)) (hn : a.length ≤ 1000000) (hbase : base ≤ w.heap.size) :
    ∃ v' w', (Builtin.append_ #[51, 51] ty #[v, .slice (some ⟨V, 0, none⟩) 1 c]).run Tryd.prog w = .ok v' w' ∧ w'.ownsRow base 64 2 v' (a ++ [x]).length (items (a ++ [x])) ∧ w.grownBy w' v.ownBlock := by
  obtain ⟨i0, hi, hz0, hz1, hz2⟩ := info_parts infoI
  obtain ⟨v', w', r1, r2, r3, _⟩ := run_append_own (P := Tryd.prog) w base 51 ty 64 i0 _ 2 24 Tryd.underlying51 hi hz0 hz1 hz2 rfl (by decide) v a.length (items a) hown ⟨V, 0, none⟩ 1 c [.string x.name, .int .i64 x.n] rfl (fun j u hj => by
    rw [Addr.add_lit, Nat.zero_add, Lib.cell_of_heap hV]
    match j, hj with
    | 0, hj => exact hj
    | 1, hj => exact hj
    | j + 2, hj => simp at hj) (fun u hu => by
    simp only [List.mem_cons, List.not_mem_nil, or_false] at hu
    rcases hu with rfl | rfl <;> rfl) (by unfold maxLen; omega) (by omega) hbase
  refine ⟨v', w', r1, ?_, r3⟩
  rw [items_append, List.length_append, List.length_singleton]
  exact r2
/-- The document's directory is another. -/
structure FrR (w w' : World) (R : Nat) : Prop where
  os : w'.os = w.os
  tape : w'.tape = w.tape
  output : w'.output = w.output
  size : w.heap.size ≤ w'.heap.size
  block : ∀ k : Nat, k < w.heap.size → k ≠ R → w'.heap[k]? = w.heap[k]?
def StepR (w : World) (base R : Nat) (l' : List Ent) (w' : World) : Prop := ∃ vL', RefD w' base R l' vL' ∧ FrR w w' R
theorem own_below {w w' : World} {base : Nat} {e : TypeId} {size n : Nat} {v : Value} {xs : List Value} (h : w.ownsRow base e size v n xs) (hb : Below w.heap.size w w') : w'.ownsRow base e size v n xs := own_stay h fun k hk => by
  obtain ⟨cs, hc⟩ := own_type h k hk
  rw [kept_below hb _ _ hc, hc]
theorem own_lower {w : World} {base b0 : Nat} {e : TypeId} {size n : Nat} {v : Value} {xs : List Value} (h : w.ownsRow base e size v n xs) (hb : b0 ≤ base) : w.ownsRow b0 e size v n xs := by
  obtain ⟨h1, h2⟩ := h
  refine ⟨h1, ?_⟩
  rcases h2 with h2 | ⟨g, cap, cur, rfl, hg, r⟩
  · exact .inl h2
  · exact .inr ⟨g, cap, cur, rfl, Nat.le_trans hb hg, r⟩
section
variable {w w1 : World} {base R : Nat} {l l' : List Ent} {vL v : Value}
/-- The row is put in. -/
theorem RefD.put (h : RefD w base R l vL) (hb : Below w.heap.size w w1) (hr : w1.ownsRow w.heap.size 64 2 v l'.length (items l')) (hbase : base ≤ w.heap.size) : StepR w base R l' (w1.setCell ⟨R, 0, none⟩ v) := by
  have hh := kept_below hb _ _ h.head
  have ho : ∀ k, k ≠ R → (w1.setCell ⟨R, 0, none⟩ v).heap[k]? = w1.heap[k]? := fun k hk => Below.heap_setCell w1 ⟨R, 0, none⟩ v k hk
  refine ⟨v, ⟨?_, own_stay (own_lower hr hbase) fun k hk => ho k (fun e => ?_), h.bR⟩, hb.os, hb.tape, hb.output, by simp [World.setCell]; exact hb.size, fun k hk a => (ho k a).trans (hb.block k hk)⟩
  · simp only [World.setCell, Array.getElem?_modify, if_true, hh, Option.map_some]
    rfl
  · subst e
    obtain ⟨cs, hc⟩ := own_type hr k hk
    exact ne_block hc hh (by decide) rfl
end
/-- What is laid when i are over. -/
def laid (l : List Ent) (s : ByteArray) (n : Int) (i : Nat) : List Ent := if i ≤ plc l s then l.take i else l.take (plc l s) ++ ⟨s, n⟩ :: (l.take i).drop (plc l s)
section
variable {w w1 : World} {base R : Nat} {l : List Ent} {vL : Value}
theorem laid_end (l : List Ent) (s : ByteArray) (n : Int) : (if plc l s < l.length then laid l s n l.length else laid l s n l.length ++ [⟨s, n⟩]) = put l s n := by
  have := plc_le l s
  unfold laid put
  split
  · rw [if_neg (by omega), List.take_length]
  · have e : plc l s = l.length := by omega
    rw [if_pos (by omega), e, List.take_length, List.drop_length]
def lay2 (l : List Ent) (s : ByteArray) (n : Int) (i : Nat) : List Ent := if i < plc l s then l.take i else l.take (plc l s) ++ ⟨s, n⟩ :: (l.take i).drop (plc l s)
theorem lay2_ne {l : List Ent} {s : ByteArray} {n : Int} {i : Nat} (h : i ≠ plc l s) : lay2 l s n i = laid l s n i := by
  unfold lay2 laid
  rcases Nat.lt_or_ge i (plc l s) with h3 | h3
  · rw [if_pos h3, if_pos (by omega)]
  · rw [if_neg (by omega), if_neg (by omega)]
theorem lay2_eq {l : List Ent} {s : ByteArray} {n : Int} {i : Nat} (h : i = plc l s) : laid l s n i ++ [⟨s, n⟩] = lay2 l s n i := by
  subst h
  unfold laid lay2
  rw [if_pos (Nat.le_refl _), if_neg (by omega), List.drop_eq_nil_of_le (by rw [List.length_take]; omega)]
theorem lay2_next {l : List Ent} {s : ByteArray} {n : Int} {i : Nat} {x : Ent} (hx : l[i]? = some x) : lay2 l s n i ++ [x] = laid l s n (i + 1) := by
  obtain ⟨h1, h2⟩ := List.getElem?_eq_some_iff.1 hx
  unfold laid lay2
  rcases Nat.lt_or_ge i (plc l s) with h3 | h3
  · rw [if_pos h3, if_pos (by omega), List.take_succ_eq_append_getElem h1, h2]
  · rw [if_neg (by omega), if_neg (by omega), List.take_succ_eq_append_getElem h1, h2, List.drop_append_of_le_length (by rw [List.length_take]; omega), List.append_assoc, List.cons_append]
theorem lay2_len {l : List Ent} {s : ByteArray} {n : Int} {i : Nat} (h : i ≤ l.length) : (lay2 l s n i).length ≤ i + 1 := by
  have := plc_le l s
  unfold lay2
  split
  · rw [List.length_take]; omega
  · rw [List.length_append, List.length_cons, List.length_drop, List.length_take, List.length_take]; omega
theorem laid_len {l : List Ent} {s : ByteArray} {n : Int} {i : Nat} (h : i ≤ l.length) : (laid l s n i).length ≤ i + 1 := by
  have := plc_le l s
  unfold laid
  split
  · rw [List.length_take]; omega
  · rw [List.length_append, List.length_cons, List.length_drop, List.length_take, List.length_take]; omega
set_option maxHeartbeats 4000000 in
set_option maxRecDepth 1000000 in
theorem Radd_empty (v : Value) (n : Int) :
    Calls Tryd.prog 39 #[v, .string ⟨#[]⟩, .int .i64 n] w fun e w' => e = .returned (.int .i64 5) ∧ Below w.heap.size w w' := by
  go_enter Tryd.func39, Tryd.ntmps39
  go_wp2
  go_ret
  exact ⟨rfl, Below.refl _ _⟩
set_option maxHeartbeats 4000000 in
set_option maxRecDepth 1000000 in
theorem Radd_form (v : Value) (s : ByteArray) (n : Int) (hne : s ≠ ⟨#[]⟩) (hv : valid (bts s) = false) (hs : s.size ≤ 1048576) :
    Calls Tryd.prog 39 #[v, .string s, .int .i64 n] w fun e w' => e = .returned (.int .i64 5) ∧ Below w.heap.size w w' := by
  have c2 := RIs_calls s w hs
  rw [hv] at c2
  have C2 := Lib.hid c2
  have d1 := list_ne hne
  have d2 := list_ne2 hne
  clear c2 hv
  go_enter Tryd.func39, Tryd.ntmps39
  go_wp2_with fail
  refine (C2.out).mono ?_
  rintro e w2 ⟨rfl, hb⟩
  go_wp2
  go_ret
  exact ⟨rfl, hb⟩
set_option maxHeartbeats 4000000 in
set_option maxRecDepth 1000000 in
theorem Radd_twice (s : ByteArray) (n : Int) (h : RefD w base R l vL) (hr : Rise l) (ht : ∀ x ∈ l, x.name.size ≤ 1048576) (hx : Txt s) (hl : l.length ≤ 1000) {x : Ent} (hf : fnd l s = some x) :
    Calls Tryd.prog 39 #[.pointer (some ⟨R, 0, none⟩), .string s, .int .i64 n] w fun e w' => e = .returned (.int .i64 8) ∧ Below w.heap.size w w' := by
  have hsz := hx.sz
  have c2 := RIs_calls s w hsz
  rw [hx.ok] at c2
  have C2 := Lib.hid c2
  have d1 := list_ne hx.ne
  have d2 := list_ne2 hx.ne
  have c3 := fun W (hW : Below w.heap.size w W) => Rat_calls s (h.below hW) hr ht hsz hl
  obtain ⟨k, hk⟩ : ∃ k, plc l s = k := ⟨_, rfl⟩
  have e1 : atI l s = (k : Int) := by unfold atI; rw [hf, hk]; rfl
  rw [e1] at c3
  have C3 := Lib.hid c3
  clear c2 c3 h hr ht hx e1 hf hk
  go_enter Tryd.func39, Tryd.ntmps39
  go_wp2_with fail
  refine (C2.out).mono ?_
  rintro e w2 ⟨rfl, hb⟩
  go_wp2_with fail
  refine (C3.out _ hb).mono ?_
  rintro e w3 ⟨rfl, hb3⟩
  have HB := Lib.hid (hb.trans (hb3.mono hb.size))
  clear hb hb3
  have i1 : (0 : Int) ≤ (k : Int) := by omega
  go_wp2
  go_ret
  exact ⟨rfl, HB.out⟩
set_option maxHeartbeats 8000000 in
set_option maxRecDepth 1000000 in
theorem Radd_calls (s : ByteArray) (n : Int) (h : RefD w base R l vL) (hr : Rise l) (ht : ∀ x ∈ l, x.name.size ≤ 1048576) (hx : Txt s) (hl : l.length ≤ 1000) (hbase : base ≤ w.heap.size) (hf : fnd l s = none) :
    Calls Tryd.prog 39 #[.pointer (some ⟨R, 0, none⟩), .string s, .int .i64 n] w fun e w' => e = .returned (.int .i64 0) ∧ StepR w base R (put l s n) w' := by
  have hsz := hx.sz
  have c2 := RIs_calls s w hsz
  rw [hx.ok] at c2
  have C2 := Lib.hid c2
  have d1 := list_ne hx.ne
  have d2 := list_ne2 hx.ne
  have c3 := fun W (hW : Below w.heap.size w W) => Rat_calls s (h.below hW) hr ht hsz hl
  rw [show atI l s = -1 by unfold atI; rw [hf]; rfl] at c3
  have C3 := Lib.hid c3
  obtain ⟨A, c, rfl, _⟩ := own_form h.row
  obtain ⟨N, hN⟩ : ∃ N, l.length = N := ⟨_, rfl⟩
  have hpl := plc_le l s
  rw [hN] at h hl hpl
  have HH : Hid (RefD w base R l (.slice A N c)) := Lib.hid h
  have HN := Lib.hid hN
  have HRI := Lib.hid hr
  have HT := Lib.hid ht
  have HF := Lib.hid hf
  clear c2 c3 h hr ht hx hf hN
  go_enter Tryd.func39, Tryd.ntmps39
  go_wp2_with fail
  refine (C2.out).mono ?_
  rintro e w2 ⟨rfl, hb⟩
  go_wp2_with fail
  refine (C3.out _ hb).mono ?_
  rintro e w3 ⟨rfl, hb3⟩
  have HB3 := Lib.hid (hb.trans (hb3.mono hb.size))
  clear hb hb3 C2 C3
  go_wp2_with fail
  go_loopg [7, 8, 9] N (fun g v7 v8 v9 wr => ∃ i : Nat, v9 = .int .i64 (i : Int) ∧ i + g = N ∧ v8 = .bool (decide (plc l s < i)) ∧ wr.ownsRow w.heap.size 64 2 v7 (laid l s n i).length (items (laid l s n i)) ∧ Below w.heap.size w wr)
  case atStart => exact ⟨0, rfl, Nat.zero_add _, rfl, World.ownsRow_nil _ _ _ _, HB3.out⟩
  case round =>
    obtain ⟨i, rfl, hig, hv8, hown, hbw⟩ := hrel
    obtain ⟨A7, c7, rfl, _⟩ := own_form hown
    have HIG := Lib.hid hig
    have HOW := Lib.hid hown
    have HBW := Lib.hid hbw
    have hrd := HH.out.below hbw
    have q0 := hrd.c0
    clear hown hbw
    by_cases hin : i < N
    · have d3 : decide ((i : Int) < (N : Int)) = true := by simp; omega
      have i1 : (i : Int) < (N : Int) := by omega
      obtain ⟨x, hxi⟩ : ∃ x, l[i]? = some x := ⟨_, List.getElem?_eq_getElem (by rw [HN.out]; exact hin)⟩
      have HXI := Lib.hid hxi
      obtain ⟨g, c', e, hg, q1, q2⟩ := hrd.item hxi
      injection e with e e2 e3
      clear e2 e3
      subst e
      have hKS : ∀ W, Below w.heap.size w W → W.cell? ⟨g, i * 2, none⟩ = some (.string x.name) ∧ W.cell? ⟨g, i * 2 + 1, none⟩ = some (.int .i64 x.n) := fun W hW => by
        obtain ⟨g', c2, e2, _, p1, p2⟩ := (HH.out.below hW).item HXI.out
        injection e2 with e2 _ _
        injection e2 with e2
        injection e2 with e2
        subst e2
        exact ⟨p1, p2⟩
      have KS := Lib.hid hKS
      clear hxi hKS hrd hg hig
      obtain ⟨nw, hnw⟩ : ∃ nw, decide (i = plc l s) = nw := ⟨_, rfl⟩
      have HNW := Lib.hid hnw
      have HV8 := Lib.hid hv8
      go_upto_region 10 with fail
      go_cut [43] (fun v43 wx => v43 = .bool nw ∧ wx.ownsRow w.heap.size 64 2 (.slice A7 (laid l s n i).length c7) (laid l s n i).length (items (laid l s n i)) ∧ Below w.heap.size w wx)
      case first =>
        clear hnw HV8
        rcases Nat.lt_trichotomy i (plc l s) with hlt | heq | hgt
        · have hv8' : decide (plc l s < i) = false := decide_eq_false (by omega)
          have HE : Hid (nw = false) := Lib.hid (by rw [← HNW.out]; exact decide_eq_false (by omega))
          rw [hv8'] at hv8
          subst hv8
          have HAH : Hid (ah s x.name = false) := Lib.hid (by
            have h1 := (plc_iff l HRI.out s i x HXI.out).2 hlt
            rcases ah_one s x.name with ⟨_, h2, _⟩ | ⟨h2, _, _⟩ | ⟨h2, _, _⟩
            · rw [h1] at h2; cases h2
            · exact h2
            · exact h2)
          clear hv8'
          have hbw := HBW.out
          obtain ⟨q1, q2⟩ := KS.out _ hbw
          have q0 := (HH.out.below hbw).c0
          clear hbw
          have cA := fun W => RAhead_calls s x.name W hsz (HT.out x (List.mem_of_getElem? HXI.out))
          rw [show ah s x.name = false from HAH.out] at cA
          have CA := Lib.hid cA
          clear cA
          go_wp2_with fail
          refine (CA.out _).mono ?_
          rintro e w5 ⟨rfl, hb5⟩
          have HB05 := Lib.hid (HBW.out.trans (hb5.mono HBW.out.size))
          have HO5 := Lib.hid (own_below HOW.out hb5)
          clear CA hb5
          go_wp2_with fail
          go_meet
          exact ⟨by rw [HE.out], HO5.out, HB05.out⟩
        · have hv8' : decide (plc l s < i) = false := decide_eq_false (by omega)
          have HE : Hid (nw = true) := Lib.hid (by rw [← HNW.out]; exact decide_eq_true heq)
          rw [hv8'] at hv8
          subst hv8
          have HAH : Hid (ah s x.name = true) := Lib.hid (fnd_not HRI.out HF.out HXI.out (by omega))
          clear hv8' heq
          have hbw := HBW.out
          obtain ⟨q1, q2⟩ := KS.out _ hbw
          have q0 := (HH.out.below hbw).c0
          clear hbw
          have cA := fun W => RAhead_calls s x.name W hsz (HT.out x (List.mem_of_getElem? HXI.out))
          rw [show ah s x.name = true from HAH.out] at cA
          have CA := Lib.hid cA
          clear cA
          go_wp2_with fail
          refine (CA.out _).mono ?_
          rintro e w5 ⟨rfl, hb5⟩
          have HB05 := Lib.hid (HBW.out.trans (hb5.mono HBW.out.size))
          have HO5 := Lib.hid (own_below HOW.out hb5)
          clear CA hb5
          go_wp2_with fail
          go_meet
          exact ⟨by rw [HE.out], HO5.out, HB05.out⟩
        · have hv8' : decide (plc l s < i) = true := decide_eq_true (by omega)
          have HE : Hid (nw = false) := Lib.hid (by rw [← HNW.out]; exact decide_eq_false (by omega))
          rw [hv8'] at hv8
          subst hv8
          clear hv8'
          go_wp2_with fail
          go_meet
          exact ⟨by rw [HE.out], HOW.out, HBW.out⟩
      case rest =>
        obtain ⟨rfl, hoc, hbc⟩ := hcut
        have HOC := Lib.hid hoc
        have HBC := Lib.hid hbc
        clear hoc hbc hnw q0 q1 q2 hv8
        go_upto_if 43 with fail
        go_cut [7, 8] (fun v7 v8 wx => v8 = .bool (decide (plc l s < i + 1)) ∧ wx.ownsRow w.heap.size 64 2 v7 (lay2 l s n i).length (items (lay2 l s n i)) ∧ Below w.heap.size w wx)
        case first =>
          cases nw with
          | true =>
            have HEQ : Hid (i = plc l s) := Lib.hid (of_decide_eq_true HNW.out)
            have HLENa : Hid ((laid l s n i).length ≤ 1000000) := Lib.hid (by have := laid_len (l := l) (s := s) (n := n) (i := i) (by rw [HN.out]; omega); omega)
            have hbva : Below wc.heap.size wc (wc.alloc (.cells #[.string s, .int .i64 n] 64)) := (Below.refl _ _).alloc (Nat.le_refl _) _
            have hVa := heap_alloc_new wc (.cells #[.string s, .int .i64 n] 64)
            obtain ⟨wva, hwva⟩ : ∃ wv, wc.alloc (.cells #[.string s, .int .i64 n] 64) = wv := ⟨_, rfl⟩
            rw [hwva] at hbva hVa
            obtain ⟨va, xa, r1a, hoa, hga⟩ := run_item wva w.heap.size 51 _ (laid l s n i) ⟨s, n⟩ wc.heap.size 1 _ (own_below HOC.out hbva) hVa HLENa.out (Nat.le_trans HBC.out.size hbva.size)
            have hbxa : Below w.heap.size w xa := (HBC.out.trans (hbva.mono HBC.out.size)).grown hga (Nat.le_trans HBC.out.size hbva.size) (fun k hk => ((own_below HOC.out hbva).lt k hk).1)
            have HRa := Lib.hid r1a
            have HR1 : Hid (decide (plc l s < i + 1) = true) := Lib.hid (decide_eq_true (by have := HEQ.out; omega))
            have HR2 := Lib.hid (And.intro hoa hbxa)
            clear hoa hbxa hga r1a hVa hbva
            go_wp2_with (at_builtin; refine Lib.wpList_append_run _ rfl _ _ _ _ rfl _ _ rfl rfl _ _ HRa.out ?_)
            clear hwva
            try go_wp2_with fail
            go_meet
            refine ⟨by rw [HR1.out], ?_⟩
            have h1 := HR2.out
            rw [lay2_eq HEQ.out] at h1
            exact h1
          | false =>
            have HEQ : Hid (¬ i = plc l s) := Lib.hid (of_decide_eq_false HNW.out)
            have HR1 : Hid (decide (plc l s < i) = decide (plc l s < i + 1)) := Lib.hid (by have := HEQ.out; exact decide_eq_decide.2 (by omega))
            go_wp2_with fail
            go_meet
            refine ⟨by rw [HV8.out, HR1.out], ?_, HBC.out⟩
            rw [lay2_ne HEQ.out]
            exact HOC.out
        case rest =>
          obtain ⟨hv8, hoc, hbc⟩ := hcut
          obtain ⟨A8, c8, rfl, _⟩ := own_form hoc
          have HOD := Lib.hid hoc
          have HBD := Lib.hid hbc
          obtain ⟨q1, q2⟩ := KS.out _ hbc
          have q0 := (HH.out.below hbc).c0
          have HV9 := Lib.hid hv8
          clear hoc hbc hv8
          have HLENb : Hid ((lay2 l s n i).length ≤ 1000000) := Lib.hid (by have := lay2_len (l := l) (s := s) (n := n) (i := i) (by rw [HN.out]; omega); omega)
          have hbvb : Below wc.heap.size wc (wc.alloc (.cells #[.string x.name, .int .i64 x.n] 64)) := (Below.refl _ _).alloc (Nat.le_refl _) _
          have hVb := heap_alloc_new wc (.cells #[.string x.name, .int .i64 x.n] 64)
          obtain ⟨wvb, hwvb⟩ : ∃ wv, wc.alloc (.cells #[.string x.name, .int .i64 x.n] 64) = wv := ⟨_, rfl⟩
          rw [hwvb] at hbvb hVb
          obtain ⟨vb, xb, r1b, hob, hgb⟩ := run_item wvb w.heap.size 51 _ (lay2 l s n i) x wc.heap.size 1 _ (own_below HOD.out hbvb) hVb HLENb.out (Nat.le_trans HBD.out.size hbvb.size)
          have hbxb : Below w.heap.size w xb := (HBD.out.trans (hbvb.mono HBD.out.size)).grown hgb (Nat.le_trans HBD.out.size hbvb.size) (fun k hk => ((own_below HOD.out hbvb).lt k hk).1)
          have HRb := Lib.hid r1b
          have HO := Lib.hid hob
          have HBX := Lib.hid hbxb
          clear hob hbxb hgb r1b hVb hbvb
          go_wp2_with (at_builtin; refine Lib.wpList_append_run _ rfl _ _ _ _ rfl _ _ rfl rfl _ _ HRb.out ?_)
          clear hwvb
          go_wp2_with fail
          go_roundg (gk - 1)
          case measure => have := HIG.out; omega
          case rel => exact ⟨i + 1, by rw [Int.natCast_succ], by have := HIG.out; omega, HV9.out, by have h1 := HO.out; rw [lay2_next HXI.out] at h1; exact h1, HBX.out⟩
    · obtain rfl : i = N := by omega
      have d3 : decide ((i : Int) < (i : Int)) = false := by simp
      clear hrd
      by_cases hlt : plc l s < i
      · have hv8' : decide (plc l s < i) = true := decide_eq_true (by omega)
        rw [hv8'] at hv8
        subst hv8
        have hbw := HBW.out
        have q0 := (HH.out.below hbw).c0
        have f0 := (HH.out.below hbw).f 0
        have hst := HH.out.put (l' := put l s n) hbw (by have h1 := HOW.out; have h2 := laid_end l s n; rw [if_pos (by rw [HN.out]; exact hlt), HN.out] at h2; rw [← h2]; exact h1) hbase
        have HFIN := Lib.hid hst
        clear hbw hst hv8'
        go_wp2
        go_ret
        exact ⟨rfl, HFIN.out⟩
      · have hv8' : decide (plc l s < i) = false := decide_eq_false (by omega)
        rw [hv8'] at hv8
        subst hv8
        have hbw := HBW.out
        have how := HOW.out
        have HLENa : Hid ((laid l s n i).length ≤ 1000000) := Lib.hid (by have := laid_len (l := l) (s := s) (n := n) (i := i) (by rw [HN.out]; omega); omega)
        have hbva : Below wr.heap.size wr (wr.alloc (.cells #[.string s, .int .i64 n] 64)) := (Below.refl _ _).alloc (Nat.le_refl _) _
        have hVa := heap_alloc_new wr (.cells #[.string s, .int .i64 n] 64)
        obtain ⟨wva, hwva⟩ : ∃ wv, wr.alloc (.cells #[.string s, .int .i64 n] 64) = wv := ⟨_, rfl⟩
        rw [hwva] at hbva hVa
        obtain ⟨va, xa, r1a, hoa, hga⟩ := run_item wva w.heap.size 51 _ (laid l s n i) ⟨s, n⟩ wr.heap.size 1 _ (own_below how hbva) hVa HLENa.out (Nat.le_trans hbw.size hbva.size)
        have hbxa : Below w.heap.size w xa := (hbw.trans (hbva.mono hbw.size)).grown hga (Nat.le_trans hbw.size hbva.size) (fun k hk => ((own_below how hbva).lt k hk).1)
        have HRa := Lib.hid r1a
        have q0 := (HH.out.below hbxa).c0
        have f0 := (HH.out.below hbxa).f 0
        obtain ⟨Aa, ca, rfl, _⟩ := own_form hoa
        have hst := HH.out.put (l' := put l s n) hbxa (by have h1 := hoa; have h2 := laid_end l s n; rw [if_neg (by rw [HN.out]; exact hlt), HN.out] at h2; rw [← h2]; exact h1) hbase
        have HFIN := Lib.hid hst
        clear hbw how hoa hbxa hga r1a hVa hbva hst hv8'
        go_wp2_with (at_builtin; refine Lib.wpList_append_run _ rfl _ _ _ _ rfl _ _ rfl rfl _ _ HRa.out ?_)
        clear hwva
        go_wp2
        go_ret
        exact ⟨rfl, by have h1 := HFIN.out; rw [List.length_append, List.length_singleton] at h1; exact h1⟩
end
end Go.Proofs.YtkdjkndnilmjmaaDoor.U
/- dir: the document's Remove. -/
set_option linter.unusedVariables false
set_option linter.unusedSimpArgs false
namespace Go.Proofs.YtkdjkndnilmjmaaDoor.U
open Go.RowKit Go.Proofs Go.Lib Go.Proofs.YtkdjkndnilmjmaaDoorW.PrintWords

theorem items_take : ∀ (l : List Ent) (k : Nat), items (l.take k) = (items l).take (k * 2)
  | [], k => by simp [items]
  | x :: t, 0 => by simp [items]
  | x :: t, k + 1 => by
    have := items_take t k
    rw [List.take_succ_cons, show (k + 1) * 2 = k * 2 + 1 + 1 by omega]
    have e : ∀ y : List Ent, items (x :: y) = .string x.name :: .int .i64 x.n :: items y := fun y => by simp [items]
    rw [e, e, List.take_succ_cons, List.take_succ_cons, this]
theorem items_drop : ∀ (l : List Ent) (k : Nat), items (l.drop k) = (items l).drop (k * 2)
  | [], k => by simp [items]
  | x :: t, 0 => by simp [items]
  | x :: t, k + 1 => by
    have := items_drop t k
    rw [List.drop_succ_cons, show (k + 1) * 2 = k * 2 + 1 + 1 by omega]
    have e : ∀ y : List Ent, items (x :: y) = .string x.name :: .int .i64 x.n :: items y := fun y => by simp [items]
    rw [e, List.drop_succ_cons, List.drop_succ_cons, this]
/-- Some items more. -/
theorem run_items (w : World) (base : Nat) (ty : TypeId) (v : Value) (a b : List Ent) (p : Addr) (m c : Nat) (hown : w.ownsRow base 64 2 v a.length (items a)) (hm : b.length = m) (hp : ∀ j u, (items b)[j]? = some u → w.cell? (p.add j) = some u) (hn : a.length + m ≤ 1000000) (hbase : base ≤ w.heap.size) :
    ∃ v' w', (Builtin.append_ #[51, 51] ty #[v, .slice (some p) m c]).run Tryd.prog w = .ok v' w' ∧ w'.ownsRow base 64 2 v' (a ++ b).length (items (a ++ b)) ∧ w.grownBy w' v.ownBlock := by
  subst hm
  obtain ⟨i0, hi, hz0, hz1, hz2⟩ := info_parts infoI
  obtain ⟨v', w', r1, r2, r3, _⟩ := run_append_own (P := Tryd.prog) w base 51 ty 64 i0 _ 2 24 Tryd.underlying51 hi hz0 hz1 hz2 rfl (by decide) v a.length (items a) hown p b.length c (items b) (items_len b) hp (items_one b) (by unfold maxLen; omega) (by omega) hbase
  refine ⟨v', w', r1, ?_, r3⟩
  rw [items_append, List.length_append]
  exact r2
section
variable {w w1 : World} {base R : Nat} {l : List Ent} {vL : Value}
theorem RefD.read (h : RefD w base R l vL) {g n c : Nat} (e : vL = .slice (some ⟨g, 0, none⟩) n c) : ∀ j u, (items l)[j]? = some u → w.cell? ⟨g, j, none⟩ = some u := by
  intro j u hj
  have hr := h.row
  have hlt : j < l.length * 2 := by rw [← items_len]; exact (List.getElem?_eq_some_iff.1 hj).1
  obtain ⟨A, c2, e2, _, _⟩ := own_form h.row
  rw [e] at e2 hr
  injection e2 with _ e2 _
  subst e2
  exact (hr.cellAt j (by omega)).trans hj
set_option maxHeartbeats 4000000 in
set_option maxRecDepth 1000000 in
theorem Rremove_empty (v : Value) :
    Calls Tryd.prog 40 #[v, .string ⟨#[]⟩] w fun e w' => e = .returned (.int .i64 5) ∧ Below w.heap.size w w' := by
  have C := Lib.hid (Rfind_empty (w := w) v)
  go_enter Tryd.func40, Tryd.ntmps40
  go_wp2_with fail
  refine (C.out).mono ?_
  rintro e w1 ⟨rfl, hb⟩
  go_wp2
  go_ret
  exact ⟨rfl, hb⟩
set_option maxHeartbeats 4000000 in
set_option maxRecDepth 1000000 in
theorem Rremove_form (v : Value) (s : ByteArray) (hne : s ≠ ⟨#[]⟩) (hv : valid (bts s) = false) (hs : s.size ≤ 1048576) :
    Calls Tryd.prog 40 #[v, .string s] w fun e w' => e = .returned (.int .i64 5) ∧ Below w.heap.size w w' := by
  have C := Lib.hid (Rfind_form (w := w) v s hne hv hs)
  clear hne hv
  go_enter Tryd.func40, Tryd.ntmps40
  go_wp2_with fail
  refine (C.out).mono ?_
  rintro e w1 ⟨rfl, hb⟩
  go_wp2
  go_ret
  exact ⟨rfl, hb⟩
set_option maxHeartbeats 4000000 in
set_option maxRecDepth 1000000 in
theorem Rremove_none (s : ByteArray) (h : RefD w base R l vL) (hr : Rise l) (ht : ∀ x ∈ l, x.name.size ≤ 1048576) (hx : Txt s) (hl : l.length ≤ 1000) (hf : fnd l s = none) :
    Calls Tryd.prog 40 #[.pointer (some ⟨R, 0, none⟩), .string s] w fun e w' => e = .returned (.int .i64 7) ∧ Below w.heap.size w w' := by
  have c := Rfind_calls s h hr ht hx hl
  rw [show errFnd l s = 7 by unfold errFnd; rw [hf]; rfl] at c
  have C := Lib.hid c
  clear c h hr ht hx hf
  go_enter Tryd.func40, Tryd.ntmps40
  go_wp2_with fail
  refine (C.out).mono ?_
  rintro e w1 ⟨rfl, hb⟩
  go_wp2
  go_ret
  exact ⟨rfl, hb⟩
set_option maxHeartbeats 8000000 in
set_option maxRecDepth 1000000 in
theorem Rremove_calls (s : ByteArray) (h : RefD w base R l vL) (hr : Rise l) (ht : ∀ x ∈ l, x.name.size ≤ 1048576) (hx : Txt s) (hl : l.length ≤ 1000) (hbase : base ≤ w.heap.size) {x : Ent} (hf : fnd l s = some x) :
    Calls Tryd.prog 40 #[.pointer (some ⟨R, 0, none⟩), .string s] w fun e w' => e = .returned (.int .i64 0) ∧ StepR w base R (cut l s) w' := by
  have hsz := hx.sz
  have c1 := Rfind_calls s h hr ht hx hl
  rw [show errFnd l s = 0 by unfold errFnd; rw [hf]; rfl] at c1
  have c2 := fun W (hW : Below w.heap.size w W) => Rat_calls s (h.below hW) hr ht hsz hl
  have hat := fnd_at hr hf
  obtain ⟨k, hk⟩ : ∃ k, plc l s = k := ⟨_, rfl⟩
  rw [show atI l s = (k : Int) by unfold atI; rw [hf, hk]; rfl] at c2
  rw [hk] at hat
  have hkn := (List.getElem?_eq_some_iff.1 hat).1
  obtain ⟨g, c, rfl, hg, _⟩ := h.item hat
  have hcut : cut l s = l.take k ++ l.drop (k + 1) := by unfold cut; rw [hk]
  obtain ⟨N, hN⟩ : ∃ N, l.length = N := ⟨_, rfl⟩
  rw [hN] at h hkn hl
  obtain ⟨A1, c1', e1, hnc, _⟩ := own_form h.row
  injection e1 with e0 e2 e3
  subst e3
  subst e0
  rw [hN] at hnc
  have C1 := Lib.hid c1
  have C2 := Lib.hid c2
  have HH := Lib.hid h
  have HN := Lib.hid hN
  have HCUT := Lib.hid hcut
  clear c1 c2 h hr ht hx hf hat hk hN hcut e2
  go_enter Tryd.func40, Tryd.ntmps40
  go_wp2_with fail
  refine (C1.out).mono ?_
  rintro e w1 ⟨rfl, hb1⟩
  have HB1 := Lib.hid hb1
  clear hb1
  go_wp2_with fail
  refine (C2.out _ HB1.out).mono ?_
  rintro e w2 ⟨rfl, hb2⟩
  have hb02 := HB1.out.trans (hb2.mono HB1.out.size)
  have q0 := (HH.out.below hb02).c0
  obtain ⟨va, xa, r1a, hoa, hga⟩ := run_items w2 w.heap.size 51 (.slice none 0 0) [] (l.take k) ⟨g, 0, none⟩ k c (World.ownsRow_nil _ _ _ _) (by rw [List.length_take, HN.out]; omega) (fun j u hj => by
    rw [items_take, List.getElem?_take] at hj
    split at hj
    · rw [Addr.add_lit, Nat.zero_add]
      exact (HH.out.below hb02).read rfl j u hj
    · cases hj) (by have : ([] : List Ent).length = 0 := rfl; omega) hb02.size
  have hbxa : Below w.heap.size w xa := hb02.grown hga hb02.size (fun k hk => by cases hk)
  have q1 := (HH.out.below hbxa).c0
  have i1 : (k : Int) < (N : Int) := by omega
  have i2 : (k : Int) ≤ (c : Int) := by omega
  have HRa := Lib.hid r1a
  have ho1 : xa.ownsRow w.heap.size 64 2 va (l.take k).length (items (l.take k)) := hoa
  obtain ⟨Aa, ca, rfl, _⟩ := own_form ho1
  rw [show (l.take k).length = k by rw [List.length_take, HN.out]; omega] at HRa ho1
  have HO1 := Lib.hid ho1
  have HBX := Lib.hid hbxa
  clear r1a hoa ho1 hga hb2
  rcases Nat.lt_or_ge (k + 1) c with hkc | hkc
  · have i3 : (k : Int) + 1 < (c : Int) := by omega
    have i4 : (k : Int) + 1 ≤ (N : Int) := by omega
    go_upto_region 7 with (at_builtin; refine Lib.wpList_append_run _ rfl _ _ _ _ rfl _ _ rfl rfl _ _ HRa.out ?_)
    obtain ⟨vb, xb, r1b, hob, hgb⟩ := run_items xa w.heap.size 51 (.slice Aa k ca) (l.take k) (l.drop (k + 1)) ⟨g, (k + 1) * 2, none⟩ (N - (k + 1)) (c - (k + 1)) (by have h1 := HO1.out; rw [show (l.take k).length = k by rw [List.length_take, HN.out]; omega]; exact h1) (by rw [List.length_drop, HN.out]) (fun j u hj => by
      rw [items_drop, List.getElem?_drop] at hj
      rw [Addr.add_lit]
      exact (HH.out.below HBX.out).read rfl _ u hj) (by rw [List.length_take, HN.out]; omega) HBX.out.size
    have hbxb : Below w.heap.size w xb := HBX.out.grown hgb HBX.out.size (fun k hk => (HO1.out.lt k hk).1)
    have q2 := (HH.out.below hbxb).c0
    have f2 := (HH.out.below hbxb).f 0
    have hst := HH.out.put (l' := cut l s) hbxb (by rw [HCUT.out]; exact hob) hbase
    obtain ⟨Ab, cb, rfl, _⟩ := own_form hob
    obtain ⟨m9, hm9⟩ : ∃ m9, (l.take k ++ l.drop (k + 1)).length = m9 := ⟨_, rfl⟩
    rw [hm9] at r1b hst
    have HRb := Lib.hid r1b
    have HFIN := Lib.hid hst
    clear r1b hob hgb hbxb hst hm9
    go_wp2_with (at_builtin; refine Lib.wpList_append_run _ rfl _ _ _ _ rfl _ _ rfl rfl _ _ HRb.out ?_)
    go_wp2
    go_ret
    exact ⟨rfl, HFIN.out⟩
  · obtain rfl : c = k + 1 := by omega
    have i4 : (k : Int) + 1 ≤ (N : Int) := by omega
    go_upto_region 7 with (at_builtin; refine Lib.wpList_append_run _ rfl _ _ _ _ rfl _ _ rfl rfl _ _ HRa.out ?_)
    obtain ⟨vb, xb, r1b, hob, hgb⟩ := run_items xa w.heap.size 51 (.slice Aa k ca) (l.take k) (l.drop (k + 1)) ⟨g, 0, none⟩ 0 0 (by have h1 := HO1.out; rw [show (l.take k).length = k by rw [List.length_take, HN.out]; omega]; exact h1) (by rw [List.length_drop, HN.out]; omega) (fun j u hj => by
      rw [List.drop_eq_nil_of_le (by rw [HN.out]; omega)] at hj
      simp [items] at hj) (by rw [List.length_take, HN.out]; omega) HBX.out.size
    have hbxb : Below w.heap.size w xb := HBX.out.grown hgb HBX.out.size (fun k hk => (HO1.out.lt k hk).1)
    have q2 := (HH.out.below hbxb).c0
    have f2 := (HH.out.below hbxb).f 0
    have hst := HH.out.put (l' := cut l s) hbxb (by rw [HCUT.out]; exact hob) hbase
    obtain ⟨Ab, cb, rfl, _⟩ := own_form hob
    obtain ⟨m9, hm9⟩ : ∃ m9, (l.take k ++ l.drop (k + 1)).length = m9 := ⟨_, rfl⟩
    rw [hm9] at r1b hst
    have HRb := Lib.hid r1b
    have HFIN := Lib.hid hst
    clear r1b hob hgb hbxb hst hm9
    go_wp2_with (at_builtin; refine Lib.wpList_append_run _ rfl _ _ _ _ rfl _ _ rfl rfl _ _ HRb.out ?_)
    go_wp2
    go_ret
    exact ⟨rfl, HFIN.out⟩
end
end Go.Proofs.YtkdjkndnilmjmaaDoor.U
/- dir: the document's Rename. -/
set_option linter.unusedVariables false
set_option linter.unusedSimpArgs false
namespace Go.Proofs.YtkdjkndnilmjmaaDoor.U
open Go.RowKit Go.Proofs Go.Lib Go.Proofs.YtkdjkndnilmjmaaDoorW.PrintWords

theorem FrR.of_below {w w' : World} (h : Below w.heap.size w w') (R : Nat) : FrR w w' R := ⟨h.os, h.tape, h.output, h.size, fun k hk _ => h.block k hk⟩
theorem FrR.trans {a b c : World} {R : Nat} (h : FrR a b R) (k : FrR b c R) : FrR a c R := ⟨k.os.trans h.os, k.tape.trans h.tape, k.output.trans h.output, Nat.le_trans h.size k.size, fun i hi hne => (k.block i (Nat.lt_of_lt_of_le hi h.size) hne).trans (h.block i hi hne)⟩
section
variable {w w1 : World} {base R : Nat} {l : List Ent} {vL : Value}
set_option maxHeartbeats 8000000 in
set_option maxRecDepth 1000000 in
theorem Rrename_e1 (v : Value) (t : ByteArray) :
    Calls Tryd.prog 41 #[v, .string ⟨#[]⟩, .string t] w fun e w' => e = .returned (.int .i64 5) ∧ Below w.heap.size w w' := by
  go_enter Tryd.func41, Tryd.ntmps41
  go_wp2
  go_ret
  exact ⟨rfl, Below.refl _ _⟩
set_option maxHeartbeats 8000000 in
set_option maxRecDepth 1000000 in
theorem Rrename_e2 (v : Value) (s : ByteArray) (hs : s ≠ ⟨#[]⟩) :
    Calls Tryd.prog 41 #[v, .string s, .string ⟨#[]⟩] w fun e w' => e = .returned (.int .i64 5) ∧ Below w.heap.size w w' := by
  have d1 := list_ne hs
  have d2 := list_ne2 hs
  clear hs
  go_enter Tryd.func41, Tryd.ntmps41
  go_wp2
  go_ret
  exact ⟨rfl, Below.refl _ _⟩
set_option maxHeartbeats 8000000 in
set_option maxRecDepth 1000000 in
theorem Rrename_f1 (v : Value) (s t : ByteArray) (hs : s ≠ ⟨#[]⟩) (ht : t ≠ ⟨#[]⟩) (hz : s.size ≤ 1048576) (hv : valid (bts s) = false) :
    Calls Tryd.prog 41 #[v, .string s, .string t] w fun e w' => e = .returned (.int .i64 5) ∧ Below w.heap.size w w' := by
  have d1 := list_ne hs
  have d2 := list_ne2 hs
  have d3 := list_ne ht
  have d4 := list_ne2 ht
  have c1 := fun W (_ : Below w.heap.size w W) => RIs_calls s W hz
  rw [hv] at c1
  have C1 := Lib.hid c1
  clear c1
  clear hs ht hv
  go_enter Tryd.func41, Tryd.ntmps41
  go_wp2_with fail
  refine (C1.out _ (Below.refl _ _)).mono ?_
  rintro e w2 ⟨rfl, hb2⟩
  have HB2 := Lib.hid hb2
  clear hb2 C1
  go_wp2
  go_ret
  exact ⟨rfl, HB2.out⟩
set_option maxHeartbeats 8000000 in
set_option maxRecDepth 1000000 in
theorem Rrename_f2 (v : Value) (s t : ByteArray) (hs : s ≠ ⟨#[]⟩) (ht : t ≠ ⟨#[]⟩) (hz : s.size ≤ 1048576) (hy : t.size ≤ 1048576) (hv : valid (bts s) = true) (hu : valid (bts t) = false) :
    Calls Tryd.prog 41 #[v, .string s, .string t] w fun e w' => e = .returned (.int .i64 5) ∧ Below w.heap.size w w' := by
  have d1 := list_ne hs
  have d2 := list_ne2 hs
  have d3 := list_ne ht
  have d4 := list_ne2 ht
  have c1 := fun W (_ : Below w.heap.size w W) => RIs_calls s W hz
  rw [hv] at c1
  have C1 := Lib.hid c1
  clear c1
  have c2 := fun W (_ : Below w.heap.size w W) => RIs_calls t W hy
  rw [hu] at c2
  have C2 := Lib.hid c2
  clear c2
  clear hs ht hv hu
  go_enter Tryd.func41, Tryd.ntmps41
  go_wp2_with fail
  refine (C1.out _ (Below.refl _ _)).mono ?_
  rintro e w2 ⟨rfl, hb2⟩
  have HB2 := Lib.hid hb2
  clear hb2 C1
  go_wp2_with fail
  refine (C2.out _ HB2.out).mono ?_
  rintro e w3 ⟨rfl, hb3⟩
  have HB3 := Lib.hid (HB2.out.trans (hb3.mono HB2.out.size))
  clear hb3 C2
  go_wp2
  go_ret
  exact ⟨rfl, HB3.out⟩
set_option maxHeartbeats 8000000 in
set_option maxRecDepth 1000000 in
theorem Rrename_none (s t : ByteArray) (h : RefD w base R l vL) (hr : Rise l) (hz : ∀ x ∈ l, x.name.size ≤ 1048576) (hs : Txt s) (ht : Txt t) (hl : l.length ≤ 1000) (hf : fnd l s = none) :
    Calls Tryd.prog 41 #[.pointer (some ⟨R, 0, none⟩), .string s, .string t] w fun e w' => e = .returned (.int .i64 7) ∧ Below w.heap.size w w' := by
  have hsz := hs.sz
  have htz := ht.sz
  have d1 := list_ne hs.ne
  have d2 := list_ne2 hs.ne
  have d3 := list_ne ht.ne
  have d4 := list_ne2 ht.ne
  have c1 := fun W (_ : Below w.heap.size w W) => RIs_calls s W hsz
  rw [hs.ok] at c1
  have C1 := Lib.hid c1
  clear c1
  have c2 := fun W (_ : Below w.heap.size w W) => RIs_calls t W htz
  rw [ht.ok] at c2
  have C2 := Lib.hid c2
  clear c2
  have c3 := fun W (hW : Below w.heap.size w W) => Rfind_calls s (h.below hW) hr hz hs hl
  rw [show errFnd l s = 7 by unfold errFnd; rw [hf]; rfl] at c3
  have C3 := Lib.hid c3
  clear c3
  clear hs ht h hr hz hf
  go_enter Tryd.func41, Tryd.ntmps41
  go_wp2_with fail
  refine (C1.out _ (Below.refl _ _)).mono ?_
  rintro e w2 ⟨rfl, hb2⟩
  have HB2 := Lib.hid hb2
  clear hb2 C1
  go_wp2_with fail
  refine (C2.out _ HB2.out).mono ?_
  rintro e w3 ⟨rfl, hb3⟩
  have HB3 := Lib.hid (HB2.out.trans (hb3.mono HB2.out.size))
  clear hb3 C2
  go_wp2_with fail
  refine (C3.out _ HB3.out).mono ?_
  rintro e w4 ⟨rfl, hb4⟩
  have HB4 := Lib.hid (HB3.out.trans (hb4.mono HB3.out.size))
  clear hb4 C3
  go_wp2
  go_ret
  exact ⟨rfl, HB4.out⟩
set_option maxHeartbeats 8000000 in
set_option maxRecDepth 1000000 in
theorem Rrename_twice (s t : ByteArray) (h : RefD w base R l vL) (hr : Rise l) (hz : ∀ x ∈ l, x.name.size ≤ 1048576) (hs : Txt s) (ht : Txt t) (hl : l.length ≤ 1000) {x : Ent} (hf : fnd l s = some x) (hth : (fnd l t).isSome = true) (hal : al x.name t = false) :
    Calls Tryd.prog 41 #[.pointer (some ⟨R, 0, none⟩), .string s, .string t] w fun e w' => e = .returned (.int .i64 8) ∧ Below w.heap.size w w' := by
  have hsz := hs.sz
  have htz := ht.sz
  have d1 := list_ne hs.ne
  have d2 := list_ne2 hs.ne
  have d3 := list_ne ht.ne
  have d4 := list_ne2 ht.ne
  have c1 := fun W (_ : Below w.heap.size w W) => RIs_calls s W hsz
  rw [hs.ok] at c1
  have C1 := Lib.hid c1
  clear c1
  have c2 := fun W (_ : Below w.heap.size w W) => RIs_calls t W htz
  rw [ht.ok] at c2
  have C2 := Lib.hid c2
  clear c2
  have c3 := fun W (hW : Below w.heap.size w W) => Rfind_calls s (h.below hW) hr hz hs hl
  rw [show errFnd l s = 0 by unfold errFnd; rw [hf]; rfl, show ownOf l s = x.name by unfold ownOf; rw [hf]; rfl, show numOf l s = x.n by unfold numOf; rw [hf]; rfl] at c3
  have C3 := Lib.hid c3
  clear c3
  obtain ⟨k, hk⟩ : ∃ k, plc l t = k := ⟨_, rfl⟩
  have c4 := fun W (hW : Below w.heap.size w W) => Rat_calls t (h.below hW) hr hz htz hl
  rw [show atI l t = (k : Int) by unfold atI; rw [if_pos hth, hk]] at c4
  have C4 := Lib.hid c4
  clear c4
  clear hk
  have i1 : (0 : Int) ≤ (k : Int) := by omega
  have c5 := fun W (_ : Below w.heap.size w W) => RAlike_calls x.name t W (hz x (fnd_some hf).1) htz
  rw [hal] at c5
  have C5 := Lib.hid c5
  clear c5
  clear hs ht h hr hz hf hth hal
  go_enter Tryd.func41, Tryd.ntmps41
  go_wp2_with fail
  refine (C1.out _ (Below.refl _ _)).mono ?_
  rintro e w2 ⟨rfl, hb2⟩
  have HB2 := Lib.hid hb2
  clear hb2 C1
  go_wp2_with fail
  refine (C2.out _ HB2.out).mono ?_
  rintro e w3 ⟨rfl, hb3⟩
  have HB3 := Lib.hid (HB2.out.trans (hb3.mono HB2.out.size))
  clear hb3 C2
  go_wp2_with fail
  refine (C3.out _ HB3.out).mono ?_
  rintro e w4 ⟨rfl, hb4⟩
  have HB4 := Lib.hid (HB3.out.trans (hb4.mono HB3.out.size))
  clear hb4 C3
  go_wp2_with fail
  refine (C4.out _ HB4.out).mono ?_
  rintro e w5 ⟨rfl, hb5⟩
  have HB5 := Lib.hid (HB4.out.trans (hb5.mono HB4.out.size))
  clear hb5 C4
  go_wp2_with fail
  refine (C5.out _ HB5.out).mono ?_
  rintro e w6 ⟨rfl, hb6⟩
  have HB6 := Lib.hid (HB5.out.trans (hb6.mono HB5.out.size))
  clear hb6 C5
  go_wp2
  go_ret
  exact ⟨rfl, HB6.out⟩
set_option maxHeartbeats 8000000 in
set_option maxRecDepth 1000000 in
theorem Rrename_new (s t : ByteArray) (h : RefD w base R l vL) (hr : Rise l) (hz : ∀ x ∈ l, x.name.size ≤ 1048576) (hs : Txt s) (ht : Txt t) (hl : l.length ≤ 1000) (hbase : base ≤ w.heap.size) {x : Ent} (hf : fnd l s = some x) (hth : fnd l t = none) :
    Calls Tryd.prog 41 #[.pointer (some ⟨R, 0, none⟩), .string s, .string t] w fun e w' => e = .returned (.int .i64 0) ∧ StepR w base R (put (cut l s) t x.n) w' := by
  have hsz := hs.sz
  have htz := ht.sz
  have d1 := list_ne hs.ne
  have d2 := list_ne2 hs.ne
  have d3 := list_ne ht.ne
  have d4 := list_ne2 ht.ne
  have c1 := fun W (_ : Below w.heap.size w W) => RIs_calls s W hsz
  rw [hs.ok] at c1
  have C1 := Lib.hid c1
  clear c1
  have c2 := fun W (_ : Below w.heap.size w W) => RIs_calls t W htz
  rw [ht.ok] at c2
  have C2 := Lib.hid c2
  clear c2
  have c3 := fun W (hW : Below w.heap.size w W) => Rfind_calls s (h.below hW) hr hz hs hl
  rw [show errFnd l s = 0 by unfold errFnd; rw [hf]; rfl, show ownOf l s = x.name by unfold ownOf; rw [hf]; rfl, show numOf l s = x.n by unfold numOf; rw [hf]; rfl] at c3
  have C3 := Lib.hid c3
  clear c3
  have c4 := fun W (hW : Below w.heap.size w W) => Rat_calls t (h.below hW) hr hz htz hl
  rw [show atI l t = -1 by unfold atI; rw [hth]; rfl] at c4
  have C4 := Lib.hid c4
  clear c4
  have HH := Lib.hid h
  have HRI := Lib.hid hr
  have HZ := Lib.hid hz
  have HS := Lib.hid (And.intro hs ht)
  have HF := Lib.hid hf
  have HNO : Hid (fnd (cut l s) t = none) := Lib.hid (fnd_sub (fun y hy => cut_mem hy) hth)
  clear hs ht h hr hz hf hth
  go_enter Tryd.func41, Tryd.ntmps41
  go_wp2_with fail
  refine (C1.out _ (Below.refl _ _)).mono ?_
  rintro e w2 ⟨rfl, hb2⟩
  have HB2 := Lib.hid hb2
  clear hb2 C1
  go_wp2_with fail
  refine (C2.out _ HB2.out).mono ?_
  rintro e w3 ⟨rfl, hb3⟩
  have HB3 := Lib.hid (HB2.out.trans (hb3.mono HB2.out.size))
  clear hb3 C2
  go_wp2_with fail
  refine (C3.out _ HB3.out).mono ?_
  rintro e w4 ⟨rfl, hb4⟩
  have HB4 := Lib.hid (HB3.out.trans (hb4.mono HB3.out.size))
  clear hb4 C3
  go_wp2_with fail
  refine (C4.out _ HB4.out).mono ?_
  rintro e w5 ⟨rfl, hb5⟩
  have HB5 := Lib.hid (HB4.out.trans (hb5.mono HB4.out.size))
  clear hb5 C4
  have C7 := Lib.hid (Rremove_calls s (HH.out.below HB5.out) HRI.out HZ.out HS.out.1 hl (Nat.le_trans hbase HB5.out.size) HF.out)
  go_wp2_with fail
  refine (C7.out).mono ?_
  rintro e w7 ⟨rfl, v7, hd7, hf7⟩
  have hf07 := (FrR.of_below HB5.out R).trans hf7
  have C8 := Lib.hid (Radd_calls t x.n hd7 (cut_rise HRI.out s) (fun y hy => HZ.out y (cut_mem hy)) HS.out.2 (Nat.le_trans (cut_len _ _) hl) (Nat.le_trans hbase hf07.size) HNO.out)
  have HR := Lib.hid hf07
  clear hd7 hf7 hf07 C7
  go_wp2_with fail
  refine (C8.out).mono ?_
  rintro e w8 ⟨rfl, v8, hd8, hf8⟩
  have HFIN : Hid (StepR w base R (put (cut l s) t x.n) w8) := Lib.hid ⟨v8, hd8, HR.out.trans hf8⟩
  clear hd8 hf8 C8
  go_wp2
  go_ret
  exact ⟨rfl, HFIN.out⟩
set_option maxHeartbeats 8000000 in
set_option maxRecDepth 1000000 in
theorem Rrename_same (s t : ByteArray) (h : RefD w base R l vL) (hr : Rise l) (hz : ∀ x ∈ l, x.name.size ≤ 1048576) (hs : Txt s) (ht : Txt t) (hl : l.length ≤ 1000) (hbase : base ≤ w.heap.size) {x : Ent} (hf : fnd l s = some x) (hth : (fnd l t).isSome = true) (hal : al x.name t = true) :
    Calls Tryd.prog 41 #[.pointer (some ⟨R, 0, none⟩), .string s, .string t] w fun e w' => e = .returned (.int .i64 0) ∧ StepR w base R (put (cut l s) t x.n) w' := by
  have hsz := hs.sz
  have htz := ht.sz
  have d1 := list_ne hs.ne
  have d2 := list_ne2 hs.ne
  have d3 := list_ne ht.ne
  have d4 := list_ne2 ht.ne
  have c1 := fun W (_ : Below w.heap.size w W) => RIs_calls s W hsz
  rw [hs.ok] at c1
  have C1 := Lib.hid c1
  clear c1
  have c2 := fun W (_ : Below w.heap.size w W) => RIs_calls t W htz
  rw [ht.ok] at c2
  have C2 := Lib.hid c2
  clear c2
  have c3 := fun W (hW : Below w.heap.size w W) => Rfind_calls s (h.below hW) hr hz hs hl
  rw [show errFnd l s = 0 by unfold errFnd; rw [hf]; rfl, show ownOf l s = x.name by unfold ownOf; rw [hf]; rfl, show numOf l s = x.n by unfold numOf; rw [hf]; rfl] at c3
  have C3 := Lib.hid c3
  clear c3
  obtain ⟨k, hk⟩ : ∃ k, plc l t = k := ⟨_, rfl⟩
  have c4 := fun W (hW : Below w.heap.size w W) => Rat_calls t (h.below hW) hr hz htz hl
  rw [show atI l t = (k : Int) by unfold atI; rw [if_pos hth, hk]] at c4
  have C4 := Lib.hid c4
  clear c4
  clear hk
  have i1 : (0 : Int) ≤ (k : Int) := by omega
  have c5 := fun W (_ : Below w.heap.size w W) => RAlike_calls x.name t W (hz x (fnd_some hf).1) htz
  rw [hal] at c5
  have C5 := Lib.hid c5
  clear c5
  have HH := Lib.hid h
  have HRI := Lib.hid hr
  have HZ := Lib.hid hz
  have HS := Lib.hid (And.intro hs ht)
  have HF := Lib.hid hf
  have HNO : Hid (fnd (cut l s) t = none) := Lib.hid (fnd_cut hr hf hal)
  clear hs ht h hr hz hf hth hal
  go_enter Tryd.func41, Tryd.ntmps41
  go_wp2_with fail
  refine (C1.out _ (Below.refl _ _)).mono ?_
  rintro e w2 ⟨rfl, hb2⟩
  have HB2 := Lib.hid hb2
  clear hb2 C1
  go_wp2_with fail
  refine (C2.out _ HB2.out).mono ?_
  rintro e w3 ⟨rfl, hb3⟩
  have HB3 := Lib.hid (HB2.out.trans (hb3.mono HB2.out.size))
  clear hb3 C2
  go_wp2_with fail
  refine (C3.out _ HB3.out).mono ?_
  rintro e w4 ⟨rfl, hb4⟩
  have HB4 := Lib.hid (HB3.out.trans (hb4.mono HB3.out.size))
  clear hb4 C3
  go_wp2_with fail
  refine (C4.out _ HB4.out).mono ?_
  rintro e w5 ⟨rfl, hb5⟩
  have HB5 := Lib.hid (HB4.out.trans (hb5.mono HB4.out.size))
  clear hb5 C4
  go_wp2_with fail
  refine (C5.out _ HB5.out).mono ?_
  rintro e w6 ⟨rfl, hb6⟩
  have HB6 := Lib.hid (HB5.out.trans (hb6.mono HB5.out.size))
  clear hb6 C5
  have C7 := Lib.hid (Rremove_calls s (HH.out.below HB6.out) HRI.out HZ.out HS.out.1 hl (Nat.le_trans hbase HB6.out.size) HF.out)
  go_wp2_with fail
  refine (C7.out).mono ?_
  rintro e w7 ⟨rfl, v7, hd7, hf7⟩
  have hf07 := (FrR.of_below HB6.out R).trans hf7
  have C8 := Lib.hid (Radd_calls t x.n hd7 (cut_rise HRI.out s) (fun y hy => HZ.out y (cut_mem hy)) HS.out.2 (Nat.le_trans (cut_len _ _) hl) (Nat.le_trans hbase hf07.size) HNO.out)
  have HR := Lib.hid hf07
  clear hd7 hf7 hf07 C7
  go_wp2_with fail
  refine (C8.out).mono ?_
  rintro e w8 ⟨rfl, v8, hd8, hf8⟩
  have HFIN : Hid (StepR w base R (put (cut l s) t x.n) w8) := Lib.hid ⟨v8, hd8, HR.out.trans hf8⟩
  clear hd8 hf8 C8
  go_wp2
  go_ret
  exact ⟨rfl, HFIN.out⟩
end
end Go.Proofs.YtkdjkndnilmjmaaDoor.U
/- dir: the document's List. -/
set_option linter.unusedVariables false
set_option linter.unusedSimpArgs false
namespace Go.Proofs.YtkdjkndnilmjmaaDoor.U
open Go.RowKit Go.Proofs Go.Lib Go.Proofs.YtkdjkndnilmjmaaDoorW.PrintWords Go.Proofs.YtkdjkndnilmjmaaDoor.PR

theorem RFits_calls (a b : ByteArray) (w : World) (ha : a.size ≤ 1048576) (hb : b.size ≤ 1048576) :
    Calls Tryd.prog 29 #[.string a, .string b] w fun e w' => e = .returned (.tuple #[.bool (fitB (bts a) (bts b)), .int .i64 (askE (bts a) (bts b))]) ∧ Below w.heap.size w w' :=
  refectoryref05_Fits.calls _ a b _ _ w (RFits_eq a b (by omega) (by omega) _ (Nat.le_refl _))
section
variable {w w1 : World} {base R : Nat} {l : List Ent} {vL : Value}
set_option maxHeartbeats 8000000 in
set_option maxRecDepth 1000000 in
theorem Rlist_neg (p a : ByteArray) (most : Int) (h0 : most < 0) :
    Calls Tryd.prog 13 #[.pointer (some ⟨R, 0, none⟩), .string p, .string a, .int .i64 most] w fun e w' => LDone w l p a most e w' := by
  have HD := Lib.hid (LDone.err (w := w) (lerr_neg l p a h0) (by decide) (Below.refl _ _))
  go_enter Tryd.func13, Tryd.ntmps13
  go_wp2
  go_ret3
  exact HD.out
set_option maxHeartbeats 8000000 in
set_option maxRecDepth 1000000 in
theorem Rlist_pat (p a : ByteArray) (m : Nat) (hp : p.size ≤ 1048576) (hE : askE (bts p) [] ≠ 0) :
    Calls Tryd.prog 13 #[.pointer (some ⟨R, 0, none⟩), .string p, .string a, .int .i64 (m : Int)] w fun e w' => LDone w l p a m e w' := by
  have d0 : decide ((m : Int) < 0) = false := by simp
  have hm0 : ¬ (m : Int) < 0 := by omega
  have c1 := RFits_calls p ⟨#[]⟩ w hp (by decide)
  have HD := Lib.hid (fun w' => LDone.err (w := w) (w' := w') (lerr_pat l p a hm0 hE) hE)
  rw [show bts (⟨#[]⟩ : ByteArray) = [] from rfl] at c1
  obtain ⟨E, hEE⟩ : ∃ E, askE (bts p) [] = E := ⟨_, rfl⟩
  rw [hEE] at c1 HD hE
  have HEE := Lib.hid hE
  have d2 : (E == 0) = false := by simpa using hE
  have d3 : (E != 0) = true := by simpa using hE
  have C1 := Lib.hid c1
  clear c1 hm0 hE hEE
  go_enter Tryd.func13, Tryd.ntmps13
  go_wp2_with fail
  refine (C1.out).mono ?_
  rintro e w1 ⟨rfl, hb⟩
  have HB := Lib.hid hb
  clear hb C1
  go_wp2
  go_ret3
  exact HD.out _ HB.out
set_option maxHeartbeats 8000000 in
set_option maxRecDepth 1000000 in
theorem Rlist_on (p a : ByteArray) (m : Nat) (hp : p.size ≤ 1048576) (ha : a.size ≤ 1048576) (h : RefD w base R l vL) (hz : ∀ x ∈ l, x.name.size ≤ 1048576) (hl : l.length ≤ 1000) (hE : askE (bts p) [] = 0) :
    Calls Tryd.prog 13 #[.pointer (some ⟨R, 0, none⟩), .string p, .string a, .int .i64 (m : Int)] w fun e w' => LDone w l p a m e w' := by
  have d0 : decide ((m : Int) < 0) = false := by simp
  have hm0 : ¬ (m : Int) < 0 := by omega
  have c1 := RFits_calls p ⟨#[]⟩ w hp (by decide)
  rw [show bts (⟨#[]⟩ : ByteArray) = [] from rfl, hE] at c1
  have C1 := Lib.hid c1
  have c2 := fun W => RIs_calls a W ha
  obtain ⟨A, c, rfl, _⟩ := own_form h.row
  obtain ⟨N, hN⟩ : ∃ N, l.length = N := ⟨_, rfl⟩
  rw [hN] at h hl
  have HH : Hid (RefD w base R l (.slice A N c)) := Lib.hid h
  have HN := Lib.hid hN
  have HZ := Lib.hid hz
  have HE0 := Lib.hid hE
  have HM0 := Lib.hid hm0
  have HCK : Hid (∀ W, Below w.heap.size w W → ∀ i x, l[i]? = some x → ∃ g, A = some ⟨g, 0, none⟩ ∧ W.cell? ⟨g, i * 2, none⟩ = some (.string x.name)) := Lib.hid (fun W hW i x hx => by
    obtain ⟨g', c2, e2, _, p1, p2⟩ := (HH.out.below hW).item hx
    injection e2 with e2 _ _
    exact ⟨g', e2, p1⟩)
  clear c1 h hz hN hE hm0
  go_enter Tryd.func13, Tryd.ntmps13
  go_wp2_with fail
  refine (C1.out).mono ?_
  rintro e w1 ⟨rfl, hb1⟩
  have HB1 := Lib.hid hb1
  clear hb1 C1
  go_wp2_with fail
  go_loopg [13] N (fun g v13 wr => ∃ i : Nat, v13 = .int .i64 (i : Int) ∧ i + g = N ∧ (∀ (j : Nat) (y : Ent), j < i → l[j]? = some y → errX p y = 0) ∧ Below w.heap.size w wr)
  case atStart => exact ⟨0, rfl, Nat.zero_add _, fun j y hj => absurd hj (Nat.not_lt_zero _), HB1.out⟩
  case round =>
    obtain ⟨i, rfl, hig, hno, hbw⟩ := hrel
    have HIG := Lib.hid hig
    have HNO := Lib.hid hno
    have HBW := Lib.hid hbw
    have q0 := (HH.out.below hbw).c0
    clear hno hbw
    by_cases hin : i < N
    · have d1 : decide ((i : Int) < (N : Int)) = true := by simp; omega
      have i1 : (i : Int) < (N : Int) := by omega
      obtain ⟨x, hx⟩ : ∃ x, l[i]? = some x := ⟨_, List.getElem?_eq_getElem (by rw [HN.out]; exact hin)⟩
      obtain ⟨g, rfl, q1⟩ := HCK.out _ HBW.out i x hx
      have HX := Lib.hid hx
      have cF := RFits_calls p x.name wr hp (HZ.out x (List.mem_of_getElem? hx))
      rw [errX_ne] at cF
      obtain ⟨E, hEE⟩ : ∃ E, errX p x = E := ⟨_, rfl⟩
      rw [hEE] at cF
      have CF := Lib.hid cF
      have HEE := Lib.hid hEE
      clear cF hx hEE
      by_cases hE1 : E = 0
      · subst hE1
        go_wp2_with fail
        refine (CF.out).mono ?_
        rintro e w5 ⟨rfl, hb5⟩
        have HB5 := Lib.hid (HBW.out.trans (hb5.mono HBW.out.size))
        clear hb5 CF
        go_wp2_with fail
        go_roundg (gk - 1)
        case measure => have := HIG.out; omega
        case rel => exact ⟨i + 1, by rw [Int.natCast_succ], by have := HIG.out; omega, fun j y hj hy => by
          rcases Nat.lt_or_ge j i with h1 | h1
          · exact HNO.out j y h1 hy
          · obtain rfl : j = i := by omega
            rw [HX.out] at hy
            injection hy with hy
            rw [← hy]
            exact HEE.out, HB5.out⟩
      · have d2 : (E == 0) = false := by simpa using hE1
        have d3 : (E != 0) = true := by simpa using hE1
        have HD := Lib.hid (fun w' => LDone.err (w := w) (w' := w') (most := (m : Int)) (lerr_one (a := a) (by have := HM0.out; omega) HE0.out HX.out HNO.out (by rw [HEE.out]; exact hE1)) (by rw [HEE.out]; exact hE1))
        rw [HEE.out] at HD
        clear hE1
        go_wp2_with fail
        refine (CF.out).mono ?_
        rintro e w5 ⟨rfl, hb5⟩
        have HB5 := Lib.hid (HBW.out.trans (hb5.mono HBW.out.size))
        clear hb5 CF
        go_wp2
        go_ret3
        exact HD.out _ HB5.out
    · obtain rfl : i = N := by have := HIG.out; omega
      have d1 : decide ((i : Int) < (i : Int)) = false := by simp
      have hall : ∀ (j : Nat) (y : Ent), l[j]? = some y → errX p y = 0 := fun j y hy => HNO.out j y (by have := (List.getElem?_eq_some_iff.1 hy).1; rw [HN.out] at this; exact this) hy
      have HAL := Lib.hid hall
      clear hall
      obtain ⟨va, hva⟩ : ∃ va, valid (bts a) = va := ⟨_, rfl⟩
      rw [hva] at c2
      cases va with
      | false =>
        have HD := Lib.hid (fun w' => LDone.err (w := w) (w' := w') (most := (m : Int)) (lerr_form (by have := HM0.out; omega) HE0.out HAL.out hva) (by decide))
        have C2 := Lib.hid (c2 wr)
        clear c2 hva
        go_wp2_with fail
        refine (C2.out).mono ?_
        rintro e w5 ⟨rfl, hb5⟩
        have HB5 := Lib.hid (HBW.out.trans (hb5.mono HBW.out.size))
        clear hb5 C2
        go_wp2
        go_ret3
        exact HD.out _ HB5.out
      | true =>
        have HOK : Hid (lerr l p a (m : Int) = 0) := Lib.hid (lerr_ok (by have := HM0.out; omega) HE0.out HAL.out hva)
        have C2 := Lib.hid (c2 wr)
        clear c2 hva
        go_wp2_with fail
        refine (C2.out).mono ?_
        rintro e w5 ⟨rfl, hb5⟩
        have HB5 := Lib.hid (HBW.out.trans (hb5.mono HBW.out.size))
        clear hb5 C2
        go_wp2_with fail
        go_loopg [16, 17] i (fun g v16 v17 wx => ∃ k : Nat, v17 = .int .i64 (k : Int) ∧ k + g = i ∧ ((l.take k).filter (want p a)).length ≤ m ∧ wx.ownsRow w.heap.size 9 1 v16 ((l.take k).filter (want p a)).length (strs ((l.take k).filter (want p a))) ∧ Below w.heap.size w wx)
        case atStart => exact ⟨0, rfl, Nat.zero_add _, by simp, by simpa [strs] using World.ownsRow_nil _ _ _ _, HB5.out⟩
        case round =>
          obtain ⟨k, rfl, hkg, hkm, hown, hbw⟩ := hrel
          obtain ⟨A7, c7, rfl, _⟩ := own_form hown
          obtain ⟨n, hn⟩ : ∃ n, ((l.take k).filter (want p a)).length = n := ⟨_, rfl⟩
          rw [hn] at hkm hown
          have HNN := Lib.hid hn
          have HKG := Lib.hid hkg
          have HKM := Lib.hid hkm
          have HOW : Hid (wr.ownsRow w.heap.size 9 1 (.slice A7 n c7) n (strs ((l.take k).filter (want p a)))) := Lib.hid hown
          have HBW2 := Lib.hid hbw
          rw [hn]
          have q0 := (HH.out.below hbw).c0
          have hnk : n ≤ k := by rw [← hn]; exact Nat.le_trans (List.length_filter_le _ _) (by rw [List.length_take]; omega)
          clear hn hown hbw HB5
          by_cases hki : k < i
          · have d1 : decide ((k : Int) < (i : Int)) = true := by simp; omega
            have i1 : (k : Int) < (i : Int) := by omega
            obtain ⟨x, hx⟩ : ∃ x, l[k]? = some x := ⟨_, List.getElem?_eq_getElem (by rw [HN.out]; exact hki)⟩
            obtain ⟨g, rfl, q1⟩ := HCK.out _ HBW2.out k x hx
            have hKS : ∀ W, Below w.heap.size w W → W.cell? ⟨R, 0, none⟩ = some (.slice (some ⟨g, 0, none⟩) i c) ∧ W.cell? ⟨g, k * 2, none⟩ = some (.string x.name) := fun W hW => by
              obtain ⟨g', e', p1⟩ := HCK.out W hW k x hx
              injection e' with e'
              injection e' with e'
              subst e'
              exact ⟨(HH.out.below hW).c0, p1⟩
            have KS := Lib.hid hKS
            have HX := Lib.hid hx
            have HXZ := Lib.hid (HZ.out x (List.mem_of_getElem? hx))
            clear hx hKS
            obtain ⟨ft, hft⟩ : ∃ ft, fitX p x = ft := ⟨_, rfl⟩
            have HFT := Lib.hid hft
            have cF := RFits_calls p x.name wr hp HXZ.out
            rw [show fitB (bts p) (bts x.name) = ft from hft] at cF
            have CF := Lib.hid cF
            clear cF hft
            go_upto_region 18 with fail
            go_cut [18] (fun v18 wx => v18 = .bool ft ∧ wx.ownsRow w.heap.size 9 1 (.slice A7 n c7) n (strs ((l.take k).filter (want p a))) ∧ Below w.heap.size w wx)
            case first =>
              go_wp2_with fail
              refine (CF.out).mono ?_
              rintro e w5 ⟨rfl, hb5⟩
              have HO5 := Lib.hid (own_below HOW.out hb5)
              have HB5 := Lib.hid (HBW2.out.trans (hb5.mono HBW2.out.size))
              clear hb5 CF
              go_wp2_with fail
              go_meet
              exact ⟨rfl, HO5.out, HB5.out⟩
            case rest =>
              obtain ⟨rfl, hoc, hbc⟩ := hcut
              have HOC := Lib.hid hoc
              have HBC := Lib.hid hbc
              obtain ⟨q2, q3⟩ := KS.out _ hbc
              obtain ⟨wt, hwt⟩ : ∃ wt, want p a x = wt := ⟨_, rfl⟩
              have HWT := Lib.hid hwt
              clear hoc hbc hwt q0 q1 CF
              go_upto_region 19 with fail
              go_cut [98] (fun v98 wx => v98 = .bool (!wt) ∧ wx.ownsRow w.heap.size 9 1 (.slice A7 n c7) n (strs ((l.take k).filter (want p a))) ∧ Below w.heap.size w wx)
              case first =>
                cases ft with
                | false =>
                  have HE : Hid (wt = false) := Lib.hid (by rw [← HWT.out]; unfold want; rw [HFT.out, Bool.and_false])
                  go_wp2_with fail
                  go_meet
                  exact ⟨by rw [HE.out]; rfl, HOC.out, HBC.out⟩
                | true =>
                  by_cases hae : a = ⟨#[]⟩
                  · have HE : Hid (wt = true) := Lib.hid (by rw [← HWT.out]; unfold want bhd; rw [HFT.out, decide_eq_true hae]; rfl)
                    subst hae
                    go_wp2_with fail
                    go_meet
                    exact ⟨by rw [HE.out]; rfl, HOC.out, HBC.out⟩
                  · have d5 := list_ne hae
                    have d6 := list_ne2 hae
                    have cA := RAhead_calls a x.name wc ha HXZ.out
                    obtain ⟨b, hb⟩ : ∃ b, ah a x.name = b := ⟨_, rfl⟩
                    rw [hb] at cA
                    have HE : Hid (wt = b) := Lib.hid (by rw [← HWT.out]; unfold want bhd; rw [HFT.out, decide_eq_false hae, hb]; simp)
                    have CA := Lib.hid cA
                    clear cA hae hb
                    go_wp2_with fail
                    refine (CA.out).mono ?_
                    rintro e w5 ⟨rfl, hb5⟩
                    have HO5 := Lib.hid (own_below HOC.out hb5)
                    have HB5 := Lib.hid (HBC.out.trans (hb5.mono HBC.out.size))
                    clear hb5 CA
                    go_wp2_with fail
                    go_meet
                    exact ⟨by rw [HE.out], HO5.out, HB5.out⟩
              case rest =>
                obtain ⟨rfl, hoc, hbc⟩ := hcut
                have HOD := Lib.hid hoc
                have HBD := Lib.hid hbc
                obtain ⟨q4, q5⟩ := KS.out _ hbc
                clear hoc hbc q2 q3
                have hsn := filter_snoc (f := want p a) HX.out
                cases wt with
                | false =>
                  rw [HWT.out, if_neg (by decide), List.append_nil] at hsn
                  have HSN := Lib.hid hsn
                  clear hsn
                  go_wp2_with fail
                  go_roundg (gk - 1)
                  case measure => have := HKG.out; omega
                  case rel => exact ⟨k + 1, by rw [Int.natCast_succ], by have := HKG.out; omega, by rw [HSN.out, HNN.out]; exact HKM.out, by rw [HSN.out]; have h1 := HOD.out; rw [HNN.out]; exact h1, HBD.out⟩
                | true =>
                  rw [HWT.out, if_pos rfl] at hsn
                  have HSN := Lib.hid hsn
                  clear hsn
                  by_cases hnm : n = m
                  · have hpre := filter_pre (want p a) l k
                    have hpre1 := filter_pre (want p a) l (k + 1)
                    have hlen : m < (cand l p a).length := by
                      have h1 := hpre1.length_le
                      rw [HSN.out, List.length_append, HNN.out, List.length_singleton] at h1
                      unfold cand
                      omega
                    have HD := Lib.hid (fun w' v hr hb => LDone.full (w := w) (w' := w') (v := v) (L := (l.take k).filter (want p a)) (most := (m : Int)) HOK.out (by rw [Int.toNat_natCast]; exact hlen) (by rw [Int.toNat_natCast]; exact take_of_pre hpre (by rw [HNN.out]; exact hnm)) hr hb)
                    subst hnm
                    clear hpre hpre1 hlen
                    go_wp2
                    go_ret3
                    exact HD.out _ _ (by rw [HNN.out]; exact HOD.out) HBD.out
                  · have d7 : ((n : Int) == (m : Int)) = false := by simp; omega
                    have d8 : ¬ (n : Int) = (m : Int) := by omega
                    have hbvb : Below wc.heap.size wc (wc.alloc (.cells #[.string x.name] 9)) := (Below.refl _ _).alloc (Nat.le_refl _) _
                    have hVb := heap_alloc_new wc (.cells #[.string x.name] 9)
                    obtain ⟨wvb, hwvb⟩ : ∃ wv, wc.alloc (.cells #[.string x.name] 9) = wv := ⟨_, rfl⟩
                    rw [hwvb] at hbvb hVb
                    obtain ⟨vb, xb, r1b, hob, hgb⟩ := run_name wvb w.heap.size 29 (.slice A7 n c7) ((l.take k).filter (want p a)) x wc.heap.size 1 _ (by rw [HNN.out]; exact own_below HOD.out hbvb) hVb (by rw [HNN.out]; omega) (Nat.le_trans HBD.out.size hbvb.size)
                    have hbxb : Below w.heap.size w xb := (HBD.out.trans (hbvb.mono HBD.out.size)).grown hgb (Nat.le_trans HBD.out.size hbvb.size) (fun k hk => ((own_below HOD.out hbvb).lt k hk).1)
                    have HRb := Lib.hid r1b
                    have HO := Lib.hid hob
                    have HBX := Lib.hid hbxb
                    have HLE : Hid (n + 1 ≤ m) := Lib.hid (by have := HKM.out; omega)
                    clear hob hbxb hgb r1b hVb hbvb hnm
                    go_wp2_with (at_builtin; refine Lib.wpList_append_run _ rfl _ _ _ _ rfl _ _ rfl rfl _ _ HRb.out ?_)
                    clear hwvb
                    go_wp2_with fail
                    go_roundg (gk - 1)
                    case measure => have := HKG.out; omega
                    case rel => exact ⟨k + 1, by rw [Int.natCast_succ], by have := HKG.out; omega, by rw [HSN.out, List.length_append, HNN.out, List.length_singleton]; exact HLE.out, by rw [HSN.out]; exact HO.out, HBX.out⟩
          · obtain rfl : k = i := by have := HKG.out; omega
            have d1 : decide ((k : Int) < (k : Int)) = false := by simp
            have hall : (l.take k).filter (want p a) = cand l p a := by
              unfold cand
              rw [List.take_of_length_le (by rw [HN.out]; omega)]
            have HD := Lib.hid (fun w' v hr hb => LDone.all (w := w) (w' := w') (v := v) (most := (m : Int)) HOK.out (by rw [Int.toNat_natCast, ← hall, HNN.out]; exact HKM.out) hall.symm hr hb)
            clear hall
            go_wp2
            go_ret3
            exact HD.out _ _ (by rw [HNN.out]; exact HOW.out) HBW2.out
theorem Rlist_calls (p a : ByteArray) (most : Int) (hp : p.size ≤ 1048576) (ha : a.size ≤ 1048576) (h : RefD w base R l vL) (hz : ∀ x ∈ l, x.name.size ≤ 1048576) (hl : l.length ≤ 1000) :
    Calls Tryd.prog 13 #[.pointer (some ⟨R, 0, none⟩), .string p, .string a, .int .i64 most] w fun e w' => LDone w l p a most e w' := by
  by_cases h0 : most < 0
  · exact Rlist_neg p a most h0
  · obtain ⟨m, rfl⟩ := Int.eq_ofNat_of_zero_le (Int.not_lt.1 h0)
    by_cases hE : askE (bts p) [] = 0
    · exact Rlist_on p a m hp ha h hz hl hE
    · exact Rlist_pat p a m hp hE
end
end Go.Proofs.YtkdjkndnilmjmaaDoor.U
