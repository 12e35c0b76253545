/- extent: how a file lies in memory; where a place stands among its pieces. -/
import Derived.Test.YtjochldpacgcgaaEoff
import Derived.Test.YtjochldpacgcgaaEspec
import Derived.Deep.RegionHeld3
import Derived.Lib.OthersKept
set_option linter.unusedVariables false
set_option linter.unusedSimpArgs false
namespace Go.Proofs.Ytjochldpacgcgaa.U
open Go.RowKit Go.Proofs Go.Lib Go.Proofs.YtjochldpacgcgaaW.PrintWords

/-- A row of bytes that is read. -/
def BR (w : World) (A : Option Addr) (c : Nat) (bs : List Int) : Prop :=
  bs.length ≤ c ∧ (0 < bs.length → ∃ g o cs fz, A = some ⟨g, o, none⟩ ∧ w.heap[g]? = some (.cells cs 5 fz) ∧ ∀ j b, bs[j]? = some b → cs[o + j]? = some (.int .u8 b))
/-- The cells of pieces; their bytes lie in none of the blocks N. -/
def EC (w : World) (N : Nat → Prop) (cs : Array Value) (xs : List Ext) : Prop :=
  ∀ j x, xs[j]? = some x → ∃ A c, cs[j * 2]? = some (.int .i64 (x.1 : Int)) ∧ cs[j * 2 + 1]? = some (.slice A x.2.length c) ∧ BR w A c x.2 ∧ ∀ g o, A = some ⟨g, o, none⟩ → ¬ N g
/-- A file: its block D. -/
def DataAt (w : World) (N : Nat → Prop) (D : Nat) (size : Nat) (xs : List Ext) (lA : Option Addr) (c : Nat) : Prop :=
  w.heap[D]? = some (.cells #[.bool true, .int .i64 (size : Int), .slice lA xs.length c] 49 (0, 0)) ∧
    ((lA = none ∧ xs = [] ∧ c = 0) ∨ ∃ L cs, lA = some ⟨L, 0, none⟩ ∧ w.heap[L]? = some (.cells cs 41 (0, 0)) ∧ c * 2 ≤ cs.size ∧ xs.length ≤ c ∧ EC w N cs xs)
variable {N : Nat → Prop}
theorem BR.kept {w w' : World} {A : Option Addr} {c : Nat} {bs : List Int} (h : BR w A c bs) (hk : ∀ (g : Nat) (cs : Array Value) (fz : Nat × Nat), w.heap[g]? = some (Obj.cells cs 5 fz) → w'.heap[g]? = some (Obj.cells cs 5 fz)) : BR w' A c bs := by
  obtain ⟨h1, h2⟩ := h
  refine ⟨h1, fun h0 => ?_⟩
  obtain ⟨g, o, cs, fz, e, hh, hc⟩ := h2 h0
  exact ⟨g, o, cs, fz, e, hk g cs fz hh, hc⟩
theorem kept_below {w w' : World} (hb : Below w.heap.size w w') : ∀ (g : Nat) (o : Obj), w.heap[g]? = some o → w'.heap[g]? = some o := by
  intro g o h
  rw [hb.block g (Array.getElem?_eq_some_iff.1 h).1]
  exact h
theorem EC.kept {w w' : World} {cs : Array Value} {xs : List Ext} (h : EC w N cs xs) (hk : ∀ (g : Nat) (cs : Array Value) (fz : Nat × Nat), w.heap[g]? = some (Obj.cells cs 5 fz) → w'.heap[g]? = some (Obj.cells cs 5 fz)) : EC w' N cs xs := by
  intro j x hj
  obtain ⟨A, c, h1, h2, h3, h4⟩ := h j x hj
  exact ⟨A, c, h1, h2, h3.kept hk, h4⟩
theorem DataAt.below {w w' : World} {D size : Nat} {xs : List Ext} {lA : Option Addr} {c : Nat} (h : DataAt w N D size xs lA c) (hb : Below w.heap.size w w') : DataAt w' N D size xs lA c := by
  obtain ⟨h1, h2⟩ := h
  refine ⟨kept_below hb _ _ h1, ?_⟩
  rcases h2 with h2 | ⟨L, cs, e, hL, hs, hc, he⟩
  · exact .inl h2
  · exact .inr ⟨L, cs, e, kept_below hb _ _ hL, hs, hc, he.kept fun g cs fz hh => kept_below hb _ _ hh⟩
theorem DataAt.cells {w : World} {D size : Nat} {xs : List Ext} {lA : Option Addr} {c : Nat} (h : DataAt w N D size xs lA c) :
    w.cell? ⟨D, 0, none⟩ = some (.bool true) ∧ w.cell? ⟨D, 1, none⟩ = some (.int .i64 (size : Int)) ∧ w.cell? ⟨D, 2, none⟩ = some (.slice lA xs.length c) ∧ D < w.heap.size := by
  have h1 := h.1
  exact ⟨by rw [Lib.cell_of_heap h1]; rfl, by rw [Lib.cell_of_heap h1]; rfl, by rw [Lib.cell_of_heap h1]; rfl, (Array.getElem?_eq_some_iff.1 h1).1⟩
/-- A piece's two cells. -/
theorem DataAt.piece {w : World} {D size : Nat} {xs : List Ext} {lA : Option Addr} {c : Nat} (h : DataAt w N D size xs lA c) {i : Nat} {x : Ext} (hi : xs[i]? = some x) :
    ∃ L A c', lA = some ⟨L, 0, none⟩ ∧ L < w.heap.size ∧ w.cell? ⟨L, i * 2, none⟩ = some (.int .i64 (x.1 : Int)) ∧ w.cell? ⟨L, i * 2 + 1, none⟩ = some (.slice A x.2.length c') ∧ BR w A c' x.2 := by
  rcases h.2 with ⟨_, rfl, _⟩ | ⟨L, cs, e, hL, hs, hc, he⟩
  · simp at hi
  · obtain ⟨A, c', h1, h2, h3, _⟩ := he i x hi
    exact ⟨L, A, c', e, (Array.getElem?_eq_some_iff.1 hL).1, by rw [Lib.cell_of_heap hL]; exact h1, by rw [Lib.cell_of_heap hL]; exact h2, h3⟩

set_option maxHeartbeats 2000000 in
theorem end_calls (p n c : Nat) (A : Option Addr) (w : World) (hb : p + n ≤ 4611686018427387904) :
    Calls Try.prog 31 #[.agg #[.int .i64 (p : Int), .slice A n c]] w fun e w' => e = .returned (.int .i64 ((p + n : Nat) : Int)) ∧ Below w.heap.size w w' := by
  have e1 : ((p + n : Nat) : Int) = (p : Int) + (n : Int) := by omega
  rw [e1]
  clear e1
  go_enter Try.func31, Try.ntmps31
  go_wp2
  go_ret
  exact ⟨rfl, (Below.refl _ _).alloc (Nat.le_refl _) _⟩
set_option maxHeartbeats 4000000 in
set_option maxRecDepth 1000000 in
theorem from1_calls (D size p i b1 b2 : Nat) (xs : List Ext) (lA : Option Addr) (c : Nat) (x : Ext) (w : World) (h : DataAt w N D size xs lA c) (hi : xs[i]? = some x) (hl : xs.length ≤ 1000000000) (hx : en x ≤ 4611686018427387904) (hp : p ≤ 4611686018427387904)
    (h1 : w.cell? ⟨b1, 0, none⟩ = some (.pointer (some ⟨D, 0, none⟩))) (h2 : w.cell? ⟨b2, 0, none⟩ = some (.int .i64 (p : Int))) (hb1 : b1 < w.heap.size) (hb2 : b2 < w.heap.size) :
    Calls Try.prog 36 #[.int .i64 (i : Int), .pointer (some ⟨b1, 0, none⟩), .pointer (some ⟨b2, 0, none⟩)] w fun e w' => e = .returned (.bool (decide (p ≤ en x))) ∧ Below w.heap.size w w' := by
  obtain ⟨_, _, q3, hD⟩ := h.cells
  obtain ⟨L, A, c', rfl, hL, q4, q5, _⟩ := h.piece hi
  have hlt : i < xs.length := (List.getElem?_eq_some_iff.1 hi).1
  have i0 : (i : Int) < (xs.length : Int) := by omega
  have hen : en x = x.1 + x.2.length := rfl
  have cE := fun W => end_calls x.1 x.2.length c' A W (by omega)
  have CE := Lib.hid cE
  have hdec : decide ((p : Int) ≤ (x.1 : Int) + (x.2.length : Int)) = decide (p ≤ en x) := decide_eq_decide.2 (by rw [hen]; omega)
  have HDEC := Lib.hid hdec
  clear h hi cE hdec
  generalize xs.length = n at *
  go_enter Try.func36, Try.ntmps36
  go_wp2_with fail
  go_region_held3 (fun w' => Below w.heap.size w w' ∧ w'.cell? ⟨b1, 0, none⟩ = some (.pointer (some ⟨D, 0, none⟩)) ∧ w'.cell? ⟨b2, 0, none⟩ = some (.int .i64 (p : Int)) ∧ w'.cell? ⟨D, 2, none⟩ = some (.slice (some ⟨L, 0, none⟩) n c) ∧ w'.cell? ⟨L, i * 2, none⟩ = some (.int .i64 (x.1 : Int)) ∧ w'.cell? ⟨L, i * 2 + 1, none⟩ = some (.slice A x.2.length c')) (first | exact ⟨below_drew1 (Below.refl _ _), h1, h2, q3, q4, q5⟩ | exact ⟨(below_drew1 (Below.refl _ _)).trans hb, (hb.cell (p := ⟨b1, 0, none⟩) hb1).trans h1, (hb.cell (p := ⟨b2, 0, none⟩) hb2).trans h2, (hb.cell (p := ⟨D, 2, none⟩) hD).trans q3, (hb.cell (p := ⟨L, i * 2, none⟩) hL).trans q4, (hb.cell (p := ⟨L, i * 2 + 1, none⟩) hL).trans q5⟩) (first | (go_at_call 31; refine (CE.out _).mono ?_; rintro e w' ⟨rfl, hb⟩))
  go_wp2
  go_ret
  exact ⟨by rw [← HDEC.out]; rfl, (below_drew1 (Below.refl _ _)).trans hb⟩
/-- How many pieces end ahead of a place. -/
def frN (p : Nat) : List Ext → Nat
  | [] => 0
  | x :: t => if en x < p then frN p t + 1 else 0
theorem frN_le (p : Nat) : ∀ xs : List Ext, frN p xs ≤ xs.length := by
  intro xs
  induction xs with
  | nil => exact Nat.le_refl _
  | cons x t ih =>
    rw [frN]
    split
    · rw [List.length_cons]; omega
    · exact Nat.zero_le _
theorem frN_skip (p : Nat) : ∀ xs : List Ext, xs.drop (frN p xs) = skip p xs := by
  intro xs
  induction xs with
  | nil => rfl
  | cons x t ih =>
    rw [frN, skip]
    split
    · rw [List.drop_succ_cons, ih]
    · rfl
theorem frN_iff (p : Nat) : ∀ (xs : List Ext) (k : Nat), Ok k xs → ∀ i x, xs[i]? = some x → (p ≤ en x ↔ frN p xs ≤ i) := by
  intro xs
  induction xs with
  | nil => intro k _ i x h; simp at h
  | cons y t ih =>
    intro k hok i x h
    rw [frN]
    cases i with
    | zero =>
      rw [List.getElem?_cons_zero] at h
      injection h with h
      subst h
      split <;> omega
    | succ i =>
      rw [List.getElem?_cons_succ] at h
      split
      · have := ih _ hok.2.2 i x h
        omega
      · rename_i hc
        have hm := hok.2.2.mem x (List.mem_of_getElem? h)
        have e : en x = x.1 + x.2.length := rfl
        omega
set_option maxHeartbeats 4000000 in
set_option maxRecDepth 1000000 in
theorem search_calls (D size p b1 b2 : Nat) (xs : List Ext) (lA : Option Addr) (c : Nat) (w : World) (h : DataAt w N D size xs lA c) (hok : Ok 0 xs) (hl : xs.length ≤ 1000000000) (hx : ∀ x ∈ xs, en x ≤ 4611686018427387904) (hp : p ≤ 4611686018427387904)
    (h1 : w.cell? ⟨b1, 0, none⟩ = some (.pointer (some ⟨D, 0, none⟩))) (h2 : w.cell? ⟨b2, 0, none⟩ = some (.int .i64 (p : Int))) (hb1 : b1 < w.heap.size) (hb2 : b2 < w.heap.size) :
    Calls Try.prog 35 #[.int .i64 xs.length, .func (.func 36) #[] #[.pointer (some ⟨b1, 0, none⟩), .pointer (some ⟨b2, 0, none⟩)]] w fun e w' => e = .returned (.int .i64 (frN p xs : Nat)) ∧ Below w.heap.size w w' := by
  have cF := fun W (hb : Below w.heap.size w W) i x (hi : xs[i]? = some x) => from1_calls D size p i b1 b2 xs lA c x W (h.below hb) hi hl (hx x (List.mem_of_getElem? hi)) hp ((hb.cell (p := ⟨b1, 0, none⟩) hb1).trans h1) ((hb.cell (p := ⟨b2, 0, none⟩) hb2).trans h2) (Nat.lt_of_lt_of_le hb1 hb.size) (Nat.lt_of_lt_of_le hb2 hb.size)
  have hfr := frN_iff p xs 0 hok
  have hfl := frN_le p xs
  generalize frN p xs = fr at *
  have CF := Lib.hid cF
  have HFR := Lib.hid hfr
  clear cF hfr h h1 h2 hok hx
  generalize hn : xs.length = n at *
  have HN := Lib.hid hn
  clear hn
  go_enter Try.func35, Try.ntmps35
  go_wp2
  go_loopw [5, 6] (fun vi vj wr => ∃ i j : Nat, vi = .int .i64 (i : Int) ∧ vj = .int .i64 (j : Int) ∧ i ≤ fr ∧ fr ≤ j ∧ j ≤ n ∧ Below w.heap.size w wr) (fun vi vj _ => (RowKit.intOf vj).toNat - (RowKit.intOf vi).toNat)
  case atStart => exact ⟨0, n, rfl, rfl, Nat.zero_le _, hfl, Nat.le_refl _, Below.refl _ _⟩
  case round =>
    obtain ⟨i, j, rfl, rfl, hi, hj, hjn, hbw⟩ := hrel
    have HB := Lib.hid hbw
    clear hbw
    by_cases hlt : i < j
    · have d0 : decide ((i : Int) < (j : Int)) = true := by simp; omega
      obtain ⟨m, hm⟩ : ∃ m, (i + j) / 2 = m := ⟨_, rfl⟩
      obtain ⟨x, hx⟩ : ∃ x, xs[m]? = some x := ⟨_, List.getElem?_eq_getElem (by have := HN.out; omega)⟩
      have C := Lib.hid (CF.out wr HB.out m x hx)
      have hmi : ((i : Int) + (j : Int)) / 2 = (m : Int) := by omega
      have hiff := HFR.out m x hx
      have him : i ≤ m := by omega
      have hmj : m < j := by omega
      clear hm hx
      go_wp2_with fail
      refine (C.out).mono ?_
      rintro e w2 ⟨rfl, hb⟩
      have HB2 := Lib.hid (HB.out.trans (hb.mono HB.out.size))
      clear hb C
      by_cases hpx : p ≤ en x
      · rw [decide_eq_true hpx]
        go_wp2
        go_roundw
        case rel => exact ⟨i, m, rfl, rfl, hi, hiff.1 hpx, by omega, HB2.out⟩
        case measure => simp only [RowKit.intOf, Int.toNat_natCast]; omega
      · rw [decide_eq_false hpx]
        have hlt2 : m < fr := by
          rcases Nat.lt_or_ge m fr with h | h
          · exact h
          · exact absurd (hiff.2 h) hpx
        go_wp2
        go_roundw
        case rel => exact ⟨m + 1, j, by rw [Int.natCast_succ], rfl, hlt2, hj, hjn, HB2.out⟩
        case measure => simp only [RowKit.intOf, Int.toNat_natCast]; omega
    · have d0 : decide ((i : Int) < (j : Int)) = false := by simp; omega
      obtain rfl : i = fr := by omega
      go_wp2
      go_ret
      exact ⟨rfl, HB.out⟩
set_option maxHeartbeats 4000000 in
set_option maxRecDepth 1000000 in
theorem from_calls (D size p : Nat) (xs : List Ext) (lA : Option Addr) (c : Nat) (w : World) (h : DataAt w N D size xs lA c) (hok : Ok 0 xs) (hl : xs.length ≤ 1000000000) (hx : ∀ x ∈ xs, en x ≤ 4611686018427387904) (hp : p ≤ 4611686018427387904) :
    Calls Try.prog 29 #[.pointer (some ⟨D, 0, none⟩), .int .i64 (p : Int)] w fun e w' => e = .returned (.int .i64 (frN p xs : Nat)) ∧ Below w.heap.size w w' := by
  have hbx : Below w.heap.size w ((w.alloc (.cells #[.pointer (some ⟨D, 0, none⟩)] 23)).alloc (.cells #[.int .i64 (p : Int)] 3)) := ((Below.refl _ w).alloc (Nat.le_refl _) _).alloc (by simp) _
  have hD := h.below hbx
  have c1 := search_calls D size p w.heap.size (w.heap.size + 1) xs lA c _ hD hok hl hx hp (by simp) (by simp) (by simp; omega) (by simp)
  obtain ⟨_, _, q3, _⟩ := hD.cells
  have C1 := Lib.hid c1
  have HBX := Lib.hid hbx
  generalize hn : xs.length = n at *
  clear h hok hx c1 hbx hD hn
  go_enter Try.func29, Try.ntmps29
  go_wp2_with fail
  refine (C1.out).mono ?_
  rintro e w2 ⟨rfl, hb⟩
  go_wp2
  go_ret
  exact ⟨rfl, HBX.out.trans (hb.mono HBX.out.size)⟩
end Go.Proofs.Ytjochldpacgcgaa.U
