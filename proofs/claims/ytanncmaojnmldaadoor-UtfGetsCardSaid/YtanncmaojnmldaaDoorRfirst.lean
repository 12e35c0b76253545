/- The reference's letters, as the print tells them: they are the plain ones. No condition but the text's size. -/
import Derived.Test.YtanncmaojnmldaaDoorPRx8
import Derived.Test.YtanncmaojnmldaaDoorUspec
set_option linter.unusedVariables false
set_option linter.unusedSimpArgs false
namespace Go.Proofs.YtanncmaojnmldaaDoor.U
open Go.RowKit Go.Proofs.YtanncmaojnmldaaDoorW.PrintWords Go.Proofs.YtanncmaojnmldaaDoor.PR Go.Lib

theorem w64 {x : Int} (h0 : -9223372036854775808 ≤ x) (h1 : x ≤ 9223372036854775807) : wrap64 x = x := by unfold wrap64; omega

theorem lead_eq (k : Nat) (c : Int) (h0 : 0 ≤ c) (h1 : c ≤ 255) : refectoryref02_lead.f (k + 3) c =
    some (if c < 128 then (1, c, 0) else if c < 192 then (0, 0, 0) else if c < 224 then (2, c - 192, 128) else if c < 240 then (3, c - 224, 2048) else if c < 248 then (4, c - 240, 65536) else (0, 0, 0)) := by
  unfold refectoryref02_lead.f
  by_cases a1 : c < 128
  · rw [if_pos a1, if_pos a1, w64 (by omega) (by omega)]
  · rw [if_neg a1, if_neg a1]
    by_cases a2 : c < 192
    · rw [if_neg (by omega), if_pos a2]
      show refectoryref02_lead.j0 ((k + 2) + 1) c false = _
      rw [refectoryref02_lead.j0]
      rw [if_neg (by decide), if_neg (by omega)]
      show refectoryref02_lead.j1 ((k + 1) + 1) c false = _
      rw [refectoryref02_lead.j1]
      rw [if_neg (by decide), if_neg (by omega)]
    · rw [if_pos (by omega), if_neg a2]
      show refectoryref02_lead.j0 ((k + 2) + 1) c _ = _
      rw [refectoryref02_lead.j0]
      by_cases a3 : c < 224
      · rw [if_pos (by simpa using a3), if_pos a3, w64 (x := c) (by omega) (by omega), w64 (by omega) (by omega)]
      · rw [if_neg (by simpa using a3), if_neg a3, if_pos (by omega)]
        show refectoryref02_lead.j1 ((k + 1) + 1) c _ = _
        rw [refectoryref02_lead.j1]
        by_cases a4 : c < 240
        · rw [if_pos (by simpa using a4), if_pos a4, w64 (x := c) (by omega) (by omega), w64 (by omega) (by omega)]
        · rw [if_neg (by simpa using a4), if_neg a4, if_pos (by omega)]
          by_cases a5 : c < 248
          · rw [if_pos a5, if_pos a5, w64 (x := c) (by omega) (by omega), w64 (by omega) (by omega)]
          · rw [if_neg a5, if_neg a5]

theorem letter_eq (n : Int) : refectoryref02_Letter.f n = some (decide (0 ≤ n ∧ n ≤ 1114111 ∧ (n < 55296 ∨ 57343 < n))) := by
  unfold refectoryref02_Letter.f
  by_cases a1 : n ≥ 0
  · by_cases a2 : n ≤ 1114111
    · by_cases a3 : n < 55296
      · rw [if_pos a1, if_pos a2, if_pos a3]; simp; omega
      · rw [if_pos a1, if_pos a2, if_neg a3]
        congr 1
        exact decide_eq_decide.2 ⟨fun h => ⟨by omega, by omega, by omega⟩, fun h => by omega⟩
    · rw [if_pos a1, if_neg a2]; simp; omega
  · rw [if_neg a1]; simp; omega

/-- One byte more. -/
theorem more_eq (k : Nat) (s : ByteArray) (at' sz n least i b : Int) (hi : i < sz) (h0 : 0 ≤ at' + i) (h1 : at' + i < s.size) (hs : s.size ≤ 17592186044416) (hb : bt s (at' + i) = b) (hbr : 0 ≤ b ∧ b ≤ 255) (hn : 0 ≤ n ∧ n ≤ 1114112) (hi2 : 0 ≤ i ∧ i ≤ 10) :
    refectoryref02_first.l0 (k + 1) s at' sz n least i = if 128 ≤ b ∧ b < 192 then refectoryref02_first.l0 k s at' sz (64 * n + b - 128) least (i + 1) else some (0, 0) := by
  rw [refectoryref02_first.l0, if_pos hi, w64 (x := at' + i) (by omega) (by omega), if_pos h0, if_pos h1, hb, w64 (x := b) (by omega) (by omega), w64 (x := 64 * n) (by omega) (by omega), w64 (x := 64 * n + b) (by omega) (by omega),
    w64 (x := 64 * n + b - 128) (by omega) (by omega), w64 (x := i + 1) (by omega) (by omega)]
  by_cases a1 : b < 128
  · rw [if_pos a1, if_neg (by omega)]
  · rw [if_neg a1]
    by_cases a2 : b ≥ 192
    · rw [if_pos a2, if_neg (by omega)]
    · rw [if_neg a2, if_pos (by omega)]
theorem last_eq (k : Nat) (s : ByteArray) (at' sz n least i : Int) (hi : ¬ i < sz) :
    refectoryref02_first.l0 (k + 1) s at' sz n least i = if least ≤ n ∧ 0 ≤ n ∧ n ≤ 1114111 ∧ (n < 55296 ∨ 57343 < n) then some (n, sz) else some (0, 0) := by
  rw [refectoryref02_first.l0, if_neg hi, letter_eq]
  by_cases a1 : n < least
  · rw [if_pos a1, if_neg (by omega)]
  · rw [if_neg a1]
    simp only [Option.bind_some]
    by_cases a2 : 0 ≤ n ∧ n ≤ 1114111 ∧ (n < 55296 ∨ 57343 < n)
    · rw [if_pos (by simpa using a2), if_pos ⟨by omega, a2⟩]
    · rw [if_neg (by simpa using a2), if_neg (fun h => a2 h.2)]

def firstOf (D : Nat × Nat) : Int × Int := if D.1 = 65533 ∧ D.2 = 1 then (0, 0) else ((D.1 : Int), (D.2 : Int))

theorem first_unf (k : Nat) (s : ByteArray) (at' a b d c : Int) (h0 : 0 ≤ at') (h1 : at' < s.size) (hc : bt s at' = c) (hl : refectoryref02_lead.f k c = some (a, b, d)) :
    refectoryref02_first.f k s at' = if a = 0 then refectoryref02_first.j0 k s at' a b d true else refectoryref02_first.j0 k s at' a b d (decide (wrap64 (at' + a) > (s.size : Int))) := by
  unfold refectoryref02_first.f
  rw [if_pos h0, if_pos h1, hc, hl]
  rfl
theorem pair_eq {a b c d : Int} (h : a = b) (h' : c = d) : (some (a, c) : Option (Int × Int)) = some (b, d) := by rw [h, h']
theorem firstOf_bad : firstOf (65533, 1) = (0, 0) := rfl
theorem firstOf_good (n w : Nat) (h : ¬ (n = 65533 ∧ w = 1)) : firstOf (n, w) = ((n : Int), (w : Int)) := by unfold firstOf; rw [if_neg h]
set_option maxHeartbeats 4000000 in
theorem first_N1 (k : Nat) (s : ByteArray) (pos b0 b1 b2 b3 n : Nat) (h : pos < s.size) (hs : s.size ≤ 17592186044416) (hn : n = s.size - pos) (h0 : b0 < 256) (h1 : b1 < 256) (h2 : b2 < 256) (h3 : b3 < 256)
    (e0 : bt s pos = b0) (e1 : pos + 1 < s.size → bt s (pos + 1) = b1) (e2 : pos + 2 < s.size → bt s (pos + 2) = b2) (e3 : pos + 3 < s.size → bt s (pos + 3) = b3) (hc : b0 < 128) :
    refectoryref02_first.f (k + 8) s pos = some (firstOf (decodeN n b0 b1 b2 b3)) := by
  have hl := lead_eq (k + 5) (b0 : Int) (by omega) (by omega)
  have a1 : b0 < 128 := hc
  have hd : decodeN n b0 b1 b2 b3 = (b0, 1) := by unfold decodeN; rw [if_pos a1]
  rw [if_pos (by omega)] at hl
  rw [first_unf _ _ _ _ _ _ _ (by omega) (by omega) e0 hl, hd, firstOf_good _ _ (by omega)]
  rw [if_neg (by omega), w64 (x := (pos : Int) + 1) (by omega) (by omega), decide_eq_false (by omega)]
  show refectoryref02_first.j0 ((k + 7) + 1) _ _ _ _ _ _ = _
  rw [refectoryref02_first.j0, if_neg (by decide)]
  show refectoryref02_first.l0 ((k + 6) + 1) _ _ _ _ _ _ = _
  rw [last_eq _ _ _ _ _ _ _ (by omega), if_pos (by omega)]
  rfl

set_option maxHeartbeats 4000000 in
theorem first_N2 (k : Nat) (s : ByteArray) (pos b0 b1 b2 b3 n : Nat) (h : pos < s.size) (hs : s.size ≤ 17592186044416) (hn : n = s.size - pos) (h0 : b0 < 256) (h1 : b1 < 256) (h2 : b2 < 256) (h3 : b3 < 256)
    (e0 : bt s pos = b0) (e1 : pos + 1 < s.size → bt s (pos + 1) = b1) (e2 : pos + 2 < s.size → bt s (pos + 2) = b2) (e3 : pos + 3 < s.size → bt s (pos + 3) = b3) (hc : 128 ≤ b0 ∧ b0 < 192) :
    refectoryref02_first.f (k + 8) s pos = some (firstOf (decodeN n b0 b1 b2 b3)) := by
  have hl := lead_eq (k + 5) (b0 : Int) (by omega) (by omega)
  have a1 : ¬ b0 < 128 := by omega
  rw [if_neg (by omega)] at hl
  have hd : decodeN n b0 b1 b2 b3 = (65533, 1) := by unfold decodeN; rw [if_neg a1, if_neg (by omega), if_neg (by omega), if_neg (by omega)]
  rw [if_pos (by omega)] at hl
  rw [first_unf _ _ _ _ _ _ _ (by omega) (by omega) e0 hl, hd, firstOf_bad]
  rw [if_pos rfl]
  show refectoryref02_first.j0 ((k + 7) + 1) _ _ _ _ _ _ = _
  rw [refectoryref02_first.j0, if_pos rfl]

set_option maxHeartbeats 4000000 in
theorem first_N3 (k : Nat) (s : ByteArray) (pos b0 b1 b2 b3 n : Nat) (h : pos < s.size) (hs : s.size ≤ 17592186044416) (hn : n = s.size - pos) (h0 : b0 < 256) (h1 : b1 < 256) (h2 : b2 < 256) (h3 : b3 < 256)
    (e0 : bt s pos = b0) (e1 : pos + 1 < s.size → bt s (pos + 1) = b1) (e2 : pos + 2 < s.size → bt s (pos + 2) = b2) (e3 : pos + 3 < s.size → bt s (pos + 3) = b3) (hc : 192 ≤ b0 ∧ b0 < 224) :
    refectoryref02_first.f (k + 8) s pos = some (firstOf (decodeN n b0 b1 b2 b3)) := by
  have hl := lead_eq (k + 5) (b0 : Int) (by omega) (by omega)
  have a1 : ¬ b0 < 128 := by omega
  rw [if_neg (by omega)] at hl
  rw [if_neg (by omega)] at hl
  rw [if_pos (by omega)] at hl
  rw [first_unf _ _ _ _ _ _ _ (by omega) (by omega) e0 hl]
  rw [if_neg (by omega), w64 (x := (pos : Int) + 2) (by omega) (by omega)]
  show refectoryref02_first.j0 ((k + 7) + 1) _ _ _ _ _ _ = _
  rw [refectoryref02_first.j0]
  have d3 : ¬ (b0 / 16 = 14 ∧ (1 < n ∧ b1 / 64 = 2) ∧ (2 < n ∧ b2 / 64 = 2)) := by omega
  have d4 : ¬ (b0 / 8 = 30 ∧ (1 < n ∧ b1 / 64 = 2) ∧ (2 < n ∧ b2 / 64 = 2) ∧ (3 < n ∧ b3 / 64 = 2)) := by omega
  by_cases a4 : 1 < n
  · rw [decide_eq_false (by omega), if_neg (by decide)]
    show refectoryref02_first.l0 ((k + 6) + 1) _ _ _ _ _ _ = _
    rw [more_eq _ _ _ _ _ _ _ (b1 : Int) (by omega) (by omega) (by omega) hs (e1 (by omega)) (by omega) (by omega) (by omega)]
    by_cases a5 : 128 ≤ b1 ∧ b1 < 192
    · rw [if_pos (by omega)]
      show refectoryref02_first.l0 ((k + 5) + 1) _ _ _ _ _ _ = _
      by_cases a6 : b0 % 32 * 64 + b1 % 64 ≥ 128
      · have hd : decodeN n b0 b1 b2 b3 = (b0 % 32 * 64 + b1 % 64, 2) := by unfold decodeN; rw [if_neg a1, if_pos (by omega), if_pos a6]
        rw [last_eq _ _ _ _ _ _ _ (by omega), if_pos (by omega), hd, firstOf_good _ _ (by omega)]
        exact pair_eq (by omega) (by omega)
      · have hd : decodeN n b0 b1 b2 b3 = (65533, 1) := by unfold decodeN; rw [if_neg a1, if_pos (by omega), if_neg a6]
        rw [last_eq _ _ _ _ _ _ _ (by omega), if_neg (by omega), hd, firstOf_bad]
    · have hd : decodeN n b0 b1 b2 b3 = (65533, 1) := by unfold decodeN; rw [if_neg a1, if_neg (by omega), if_neg d3, if_neg d4]
      rw [if_neg (by omega), hd, firstOf_bad]
  · have hd : decodeN n b0 b1 b2 b3 = (65533, 1) := by unfold decodeN; rw [if_neg a1, if_neg (by omega), if_neg d3, if_neg d4]
    rw [decide_eq_true (by omega), if_pos rfl, hd, firstOf_bad]

set_option maxHeartbeats 4000000 in
theorem first_N4 (k : Nat) (s : ByteArray) (pos b0 b1 b2 b3 n : Nat) (h : pos < s.size) (hs : s.size ≤ 17592186044416) (hn : n = s.size - pos) (h0 : b0 < 256) (h1 : b1 < 256) (h2 : b2 < 256) (h3 : b3 < 256)
    (e0 : bt s pos = b0) (e1 : pos + 1 < s.size → bt s (pos + 1) = b1) (e2 : pos + 2 < s.size → bt s (pos + 2) = b2) (e3 : pos + 3 < s.size → bt s (pos + 3) = b3) (hc : 224 ≤ b0 ∧ b0 < 240) :
    refectoryref02_first.f (k + 8) s pos = some (firstOf (decodeN n b0 b1 b2 b3)) := by
  have hl := lead_eq (k + 5) (b0 : Int) (by omega) (by omega)
  have a1 : ¬ b0 < 128 := by omega
  have d2 : ¬ (b0 / 32 = 6 ∧ (1 < n ∧ b1 / 64 = 2)) := by omega
  rw [if_neg (by omega)] at hl
  rw [if_neg (by omega)] at hl
  rw [if_neg (by omega)] at hl
  rw [if_pos (by omega)] at hl
  rw [first_unf _ _ _ _ _ _ _ (by omega) (by omega) e0 hl]
  rw [if_neg (by omega), w64 (x := (pos : Int) + 3) (by omega) (by omega)]
  show refectoryref02_first.j0 ((k + 7) + 1) _ _ _ _ _ _ = _
  rw [refectoryref02_first.j0]
  have d4 : ¬ (b0 / 8 = 30 ∧ (1 < n ∧ b1 / 64 = 2) ∧ (2 < n ∧ b2 / 64 = 2) ∧ (3 < n ∧ b3 / 64 = 2)) := by omega
  by_cases a5 : 2 < n
  · rw [decide_eq_false (by omega), if_neg (by decide)]
    show refectoryref02_first.l0 ((k + 6) + 1) _ _ _ _ _ _ = _
    rw [more_eq _ _ _ _ _ _ _ (b1 : Int) (by omega) (by omega) (by omega) hs (e1 (by omega)) (by omega) (by omega) (by omega)]
    by_cases a6 : 128 ≤ b1 ∧ b1 < 192
    · rw [if_pos (by omega)]
      show refectoryref02_first.l0 ((k + 5) + 1) _ _ _ _ _ _ = _
      rw [more_eq _ _ _ _ _ _ _ (b2 : Int) (by omega) (by omega) (by omega) hs (by rw [show ((pos : Int) + (1 + 1)) = (pos : Int) + 2 from by omega]; exact e2 (by omega)) (by omega) (by omega) (by omega)]
      by_cases a7 : 128 ≤ b2 ∧ b2 < 192
      · rw [if_pos (by omega)]
        show refectoryref02_first.l0 ((k + 4) + 1) _ _ _ _ _ _ = _
        by_cases a8 : b0 % 16 * 4096 + b1 % 64 * 64 + b2 % 64 ≥ 2048 ∧ (b0 % 16 * 4096 + b1 % 64 * 64 + b2 % 64 < 55296 ∨ (57344 ≤ b0 % 16 * 4096 + b1 % 64 * 64 + b2 % 64 ∧ b0 % 16 * 4096 + b1 % 64 * 64 + b2 % 64 ≤ 1114111))
        · have hd : decodeN n b0 b1 b2 b3 = (b0 % 16 * 4096 + b1 % 64 * 64 + b2 % 64, 3) := by unfold decodeN; rw [if_neg a1, if_neg d2, if_pos (by omega), if_pos a8]
          rw [last_eq _ _ _ _ _ _ _ (by omega), if_pos (by omega), hd, firstOf_good _ _ (by omega)]
          exact pair_eq (by omega) (by omega)
        · have hd : decodeN n b0 b1 b2 b3 = (65533, 1) := by unfold decodeN; rw [if_neg a1, if_neg d2, if_pos (by omega), if_neg a8]
          rw [last_eq _ _ _ _ _ _ _ (by omega), if_neg (by omega), hd, firstOf_bad]
      · have hd : decodeN n b0 b1 b2 b3 = (65533, 1) := by unfold decodeN; rw [if_neg a1, if_neg d2, if_neg (by omega), if_neg d4]
        rw [if_neg (by omega), hd, firstOf_bad]
    · have hd : decodeN n b0 b1 b2 b3 = (65533, 1) := by unfold decodeN; rw [if_neg a1, if_neg d2, if_neg (by omega), if_neg d4]
      rw [if_neg (by omega), hd, firstOf_bad]
  · have hd : decodeN n b0 b1 b2 b3 = (65533, 1) := by unfold decodeN; rw [if_neg a1, if_neg d2, if_neg (by omega), if_neg d4]
    rw [decide_eq_true (by omega), if_pos rfl, hd, firstOf_bad]

set_option maxHeartbeats 4000000 in
theorem first_N5 (k : Nat) (s : ByteArray) (pos b0 b1 b2 b3 n : Nat) (h : pos < s.size) (hs : s.size ≤ 17592186044416) (hn : n = s.size - pos) (h0 : b0 < 256) (h1 : b1 < 256) (h2 : b2 < 256) (h3 : b3 < 256)
    (e0 : bt s pos = b0) (e1 : pos + 1 < s.size → bt s (pos + 1) = b1) (e2 : pos + 2 < s.size → bt s (pos + 2) = b2) (e3 : pos + 3 < s.size → bt s (pos + 3) = b3) (hc : 240 ≤ b0 ∧ b0 < 248) :
    refectoryref02_first.f (k + 8) s pos = some (firstOf (decodeN n b0 b1 b2 b3)) := by
  have hl := lead_eq (k + 5) (b0 : Int) (by omega) (by omega)
  have a1 : ¬ b0 < 128 := by omega
  have d2 : ¬ (b0 / 32 = 6 ∧ (1 < n ∧ b1 / 64 = 2)) := by omega
  have d3 : ¬ (b0 / 16 = 14 ∧ (1 < n ∧ b1 / 64 = 2) ∧ (2 < n ∧ b2 / 64 = 2)) := by omega
  rw [if_neg (by omega)] at hl
  rw [if_neg (by omega)] at hl
  rw [if_neg (by omega)] at hl
  rw [if_neg (by omega)] at hl
  rw [if_pos (by omega)] at hl
  rw [first_unf _ _ _ _ _ _ _ (by omega) (by omega) e0 hl]
  rw [if_neg (by omega), w64 (x := (pos : Int) + 4) (by omega) (by omega)]
  show refectoryref02_first.j0 ((k + 7) + 1) _ _ _ _ _ _ = _
  rw [refectoryref02_first.j0]
  by_cases a6 : 3 < n
  · rw [decide_eq_false (by omega), if_neg (by decide)]
    show refectoryref02_first.l0 ((k + 6) + 1) _ _ _ _ _ _ = _
    rw [more_eq _ _ _ _ _ _ _ (b1 : Int) (by omega) (by omega) (by omega) hs (e1 (by omega)) (by omega) (by omega) (by omega)]
    by_cases a7 : 128 ≤ b1 ∧ b1 < 192
    · rw [if_pos (by omega)]
      show refectoryref02_first.l0 ((k + 5) + 1) _ _ _ _ _ _ = _
      rw [more_eq _ _ _ _ _ _ _ (b2 : Int) (by omega) (by omega) (by omega) hs (by rw [show ((pos : Int) + (1 + 1)) = (pos : Int) + 2 from by omega]; exact e2 (by omega)) (by omega) (by omega) (by omega)]
      by_cases a8 : 128 ≤ b2 ∧ b2 < 192
      · rw [if_pos (by omega)]
        show refectoryref02_first.l0 ((k + 4) + 1) _ _ _ _ _ _ = _
        rw [more_eq _ _ _ _ _ _ _ (b3 : Int) (by omega) (by omega) (by omega) hs (by rw [show ((pos : Int) + (1 + 1 + 1)) = (pos : Int) + 3 from by omega]; exact e3 (by omega)) (by omega) (by omega) (by omega)]
        by_cases a9 : 128 ≤ b3 ∧ b3 < 192
        · rw [if_pos (by omega)]
          show refectoryref02_first.l0 ((k + 3) + 1) _ _ _ _ _ _ = _
          by_cases a10 : b0 % 8 * 262144 + b1 % 64 * 4096 + b2 % 64 * 64 + b3 % 64 ≥ 65536 ∧ (b0 % 8 * 262144 + b1 % 64 * 4096 + b2 % 64 * 64 + b3 % 64 < 55296 ∨ (57344 ≤ b0 % 8 * 262144 + b1 % 64 * 4096 + b2 % 64 * 64 + b3 % 64 ∧ b0 % 8 * 262144 + b1 % 64 * 4096 + b2 % 64 * 64 + b3 % 64 ≤ 1114111))
          · have hd : decodeN n b0 b1 b2 b3 = (b0 % 8 * 262144 + b1 % 64 * 4096 + b2 % 64 * 64 + b3 % 64, 4) := by unfold decodeN; rw [if_neg a1, if_neg d2, if_neg d3, if_pos (by omega), if_pos a10]
            rw [last_eq _ _ _ _ _ _ _ (by omega), if_pos (by omega), hd, firstOf_good _ _ (by omega)]
            exact pair_eq (by omega) (by omega)
          · have hd : decodeN n b0 b1 b2 b3 = (65533, 1) := by unfold decodeN; rw [if_neg a1, if_neg d2, if_neg d3, if_pos (by omega), if_neg a10]
            rw [last_eq _ _ _ _ _ _ _ (by omega), if_neg (by omega), hd, firstOf_bad]
        · have hd : decodeN n b0 b1 b2 b3 = (65533, 1) := by unfold decodeN; rw [if_neg a1, if_neg d2, if_neg d3, if_neg (by omega)]
          rw [if_neg (by omega), hd, firstOf_bad]
      · have hd : decodeN n b0 b1 b2 b3 = (65533, 1) := by unfold decodeN; rw [if_neg a1, if_neg d2, if_neg d3, if_neg (by omega)]
        rw [if_neg (by omega), hd, firstOf_bad]
    · have hd : decodeN n b0 b1 b2 b3 = (65533, 1) := by unfold decodeN; rw [if_neg a1, if_neg d2, if_neg d3, if_neg (by omega)]
      rw [if_neg (by omega), hd, firstOf_bad]
  · have hd : decodeN n b0 b1 b2 b3 = (65533, 1) := by unfold decodeN; rw [if_neg a1, if_neg d2, if_neg d3, if_neg (by omega)]
    rw [decide_eq_true (by omega), if_pos rfl, hd, firstOf_bad]

set_option maxHeartbeats 4000000 in
theorem first_N6 (k : Nat) (s : ByteArray) (pos b0 b1 b2 b3 n : Nat) (h : pos < s.size) (hs : s.size ≤ 17592186044416) (hn : n = s.size - pos) (h0 : b0 < 256) (h1 : b1 < 256) (h2 : b2 < 256) (h3 : b3 < 256)
    (e0 : bt s pos = b0) (e1 : pos + 1 < s.size → bt s (pos + 1) = b1) (e2 : pos + 2 < s.size → bt s (pos + 2) = b2) (e3 : pos + 3 < s.size → bt s (pos + 3) = b3) (hc : 248 ≤ b0) :
    refectoryref02_first.f (k + 8) s pos = some (firstOf (decodeN n b0 b1 b2 b3)) := by
  have hl := lead_eq (k + 5) (b0 : Int) (by omega) (by omega)
  have a1 : ¬ b0 < 128 := by omega
  have d2 : ¬ (b0 / 32 = 6 ∧ (1 < n ∧ b1 / 64 = 2)) := by omega
  have d3 : ¬ (b0 / 16 = 14 ∧ (1 < n ∧ b1 / 64 = 2) ∧ (2 < n ∧ b2 / 64 = 2)) := by omega
  rw [if_neg (by omega)] at hl
  rw [if_neg (by omega)] at hl
  rw [if_neg (by omega)] at hl
  rw [if_neg (by omega)] at hl
  have hd : decodeN n b0 b1 b2 b3 = (65533, 1) := by unfold decodeN; rw [if_neg a1, if_neg d2, if_neg d3, if_neg (by omega)]
  rw [if_neg (by omega)] at hl
  rw [first_unf _ _ _ _ _ _ _ (by omega) (by omega) e0 hl, hd, firstOf_bad]
  rw [if_pos rfl]
  show refectoryref02_first.j0 ((k + 7) + 1) _ _ _ _ _ _ = _
  rw [refectoryref02_first.j0, if_pos rfl]

theorem first_N (k : Nat) (s : ByteArray) (pos b0 b1 b2 b3 n : Nat) (h : pos < s.size) (hs : s.size ≤ 17592186044416) (hn : n = s.size - pos) (h0 : b0 < 256) (h1 : b1 < 256) (h2 : b2 < 256) (h3 : b3 < 256)
    (e0 : bt s pos = b0) (e1 : pos + 1 < s.size → bt s (pos + 1) = b1) (e2 : pos + 2 < s.size → bt s (pos + 2) = b2) (e3 : pos + 3 < s.size → bt s (pos + 3) = b3) :
    refectoryref02_first.f (k + 8) s pos = some (firstOf (decodeN n b0 b1 b2 b3)) := by
  by_cases a1 : b0 < 128
  · exact first_N1 k s pos b0 b1 b2 b3 n h hs hn h0 h1 h2 h3 e0 e1 e2 e3 a1
  · by_cases a2 : b0 < 192
    · exact first_N2 k s pos b0 b1 b2 b3 n h hs hn h0 h1 h2 h3 e0 e1 e2 e3 ⟨by omega, a2⟩
    · by_cases a3 : b0 < 224
      · exact first_N3 k s pos b0 b1 b2 b3 n h hs hn h0 h1 h2 h3 e0 e1 e2 e3 ⟨by omega, a3⟩
      · by_cases a4 : b0 < 240
        · exact first_N4 k s pos b0 b1 b2 b3 n h hs hn h0 h1 h2 h3 e0 e1 e2 e3 ⟨by omega, a4⟩
        · by_cases a5 : b0 < 248
          · exact first_N5 k s pos b0 b1 b2 b3 n h hs hn h0 h1 h2 h3 e0 e1 e2 e3 ⟨by omega, a5⟩
          · exact first_N6 k s pos b0 b1 b2 b3 n h hs hn h0 h1 h2 h3 e0 e1 e2 e3 (by omega)

theorem bt_drop (s : ByteArray) (pos i : Nat) (h : pos + i < s.size) : bt s ((pos + i : Nat) : Int) = (((s.data.toList.drop pos).getD i 0).toNat : Int) := by
  have e : ((pos + i : Nat) : Int).toNat = pos + i := Int.toNat_natCast _
  unfold bt
  rw [dif_pos (by rw [e]; exact h), getD_dropU]
  congr 2
  simp only [e]
  rw [List.getD_eq_getElem?_getD, List.getElem?_eq_getElem (by rw [← size_eq]; exact h)]
  rfl
theorem first_eq (k : Nat) (s : ByteArray) (pos : Nat) (h : pos < s.size) (hs : s.size ≤ 17592186044416) :
    refectoryref02_first.f (k + 8) s pos = some (firstOf (decodeL (s.data.toList.drop pos))) := by
  rw [decodeL_N]
  refine first_N k s pos _ _ _ _ _ h hs (by rw [List.length_drop, ← size_eq]) (UInt8.toNat_lt _) (UInt8.toNat_lt _) (UInt8.toNat_lt _) (UInt8.toNat_lt _) ?_ ?_ ?_ ?_
  · have := bt_drop s pos 0 (by omega); simpa using this
  · intro hp; have := bt_drop s pos 1 hp; simpa using this
  · intro hp; have := bt_drop s pos 2 hp; simpa using this
  · intro hp; have := bt_drop s pos 3 hp; simpa using this

/-- The reference's letters. -/
def lnums (l : List UInt8) : List Int := (letters l).map fun n : Nat => (n : Int)
theorem letters_l0 (s : ByteArray) (hs : s.size ≤ 17592186044415) : ∀ (d k pos : Nat) (acc : List Int) (is : Bool), s.size - pos ≤ d → pos ≤ s.size → acc.length ≤ pos → d + 9 ≤ k →
    refectoryref02_Letters.l0 k s acc is pos = some (acc ++ lnums (s.data.toList.drop pos), is && valid (s.data.toList.drop pos)) := by
  intro d
  induction d with
  | zero =>
    intro k pos acc is hd hp ha hk
    obtain ⟨k, rfl⟩ : ∃ m, k = m + 1 := ⟨k - 1, by omega⟩
    have he : s.data.toList.drop pos = [] := List.drop_eq_nil_of_le (by rw [← size_eq]; omega)
    rw [refectoryref02_Letters.l0, if_neg (by omega), he]
    simp [lnums, letters_nil, valid, validD_nil]
  | succ d ih =>
    intro k pos acc is hd hp ha hk
    obtain ⟨k, rfl⟩ : ∃ m, k = m + 1 := ⟨k - 1, by omega⟩
    by_cases hlt : pos < s.size
    · obtain ⟨k', hk'⟩ : ∃ m, k = m + 8 := ⟨k - 8, by omega⟩
      have hne : s.data.toList.drop pos ≠ [] := by
        intro h0
        have := congrArg List.length h0
        rw [List.length_drop, ← size_eq] at this
        simp at this
        omega
      have hw := decodeL_width (s.data.toList.drop pos)
      have hwl := decodeL_le (s.data.toList.drop pos) hne
      rw [List.length_drop, ← size_eq] at hwl
      rw [refectoryref02_Letters.l0, if_pos (by omega), hk', first_eq k' s pos hlt (by omega), ← hk']
      simp only [Option.bind_some]
      rcases hD : decodeL (s.data.toList.drop pos) with ⟨r, wd⟩
      rw [hD] at hw hwl
      dsimp only at hw hwl
      by_cases hb : r = 65533 ∧ wd = 1
      · obtain ⟨rfl, rfl⟩ := hb
        have hbt := bt_drop s pos 0 (by omega)
        rw [Nat.add_zero] at hbt
        have h255 := ((s.data.toList.drop pos).getD 0 0).toNat_lt
        have hv : valid (s.data.toList.drop pos) = false := by rw [valid_step _ hne, if_pos (by unfold Bad; rw [hD]; exact ⟨rfl, rfl⟩)]
        have hl : lnums (s.data.toList.drop pos) = ((1114112 + ((s.data.toList.drop pos).getD 0 0).toNat : Nat) : Int) :: lnums (s.data.toList.drop (pos + 1)) := by
          unfold lnums
          rw [letters_step _ hne, letter1_bad hD, hD, List.drop_drop, List.map_cons]
          congr 3
          rcases s.data.toList.drop pos with _ | ⟨a, t⟩ <;> rfl
        rw [show firstOf (65533, 1) = (0, 0) from rfl]
        dsimp only
        rw [if_pos rfl, if_pos (by omega), if_pos (by omega), hbt, w64 (x := (((s.data.toList.drop pos).getD 0 0).toNat : Int)) (by omega) (by omega), w64 (x := 1114112 + _) (by omega) (by omega), w64 (x := (pos : Int) + 1) (by omega) (by omega)]
        rw [show ((pos : Int) + 1) = ((pos + 1 : Nat) : Int) from rfl, ih k (pos + 1) _ false (by omega) (by omega) (by simp; omega) (by omega), hv, hl]
        simp
      · have hv : valid (s.data.toList.drop pos) = valid (s.data.toList.drop (pos + wd)) := by rw [valid_step _ hne, if_neg (by unfold Bad; rw [hD]; exact hb), hD, List.drop_drop]
        have hl : lnums (s.data.toList.drop pos) = (r : Int) :: lnums (s.data.toList.drop (pos + wd)) := by
          unfold lnums
          rw [letters_step _ hne, letter1_good hD hb, hD, List.drop_drop]
          rfl
        have hf : firstOf (r, wd) = ((r : Int), (wd : Int)) := by unfold firstOf; rw [if_neg hb]
        rw [hf]
        dsimp only
        rw [if_neg (by omega), if_pos (by omega), w64 (by omega) (by omega)]
        rw [show ((pos : Int) + (wd : Int)) = ((pos + wd : Nat) : Int) from by omega, ih k (pos + wd) _ is (by omega) (by omega) (by simp; omega) (by omega), hv, hl]
        simp
    · have he : s.data.toList.drop pos = [] := List.drop_eq_nil_of_le (by rw [← size_eq]; omega)
      rw [refectoryref02_Letters.l0, if_neg (by omega), he]
      simp [lnums, letters_nil, valid, validD_nil]
theorem Letters_eq (s : ByteArray) (hs : s.size ≤ 17592186044415) (k : Nat) (hk : s.size + 9 ≤ k) : refectoryref02_Letters.f k s = some (lnums s.data.toList, valid s.data.toList) := by
  unfold refectoryref02_Letters.f
  have := letters_l0 s hs s.size k 0 [] true (by omega) (by omega) (by simp) hk
  simpa using this
end Go.Proofs.YtanncmaojnmldaaDoor.U
