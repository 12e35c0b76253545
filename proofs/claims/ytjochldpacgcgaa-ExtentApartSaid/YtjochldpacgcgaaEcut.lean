/- extent: Cut. -/
import Derived.Test.YtjochldpacgcgaaEfr
import Derived.Test.YtjochldpacgcgaaLreg
import Derived.Deep.LoopGhost
import Derived.Outline
set_option linter.unusedVariables false
set_option linter.unusedSimpArgs false
namespace Go.Proofs.Ytjochldpacgcgaa.U
open Go.RowKit Go.Proofs Go.Lib Go.Proofs.YtjochldpacgcgaaW.PrintWords
variable {N : Nat → Prop}

theorem ct_form (size : Nat) : ∀ (xs : List Ext) (k : Nat), Ok k xs → (ct size xs).length ≤ xs.length ∧ (∀ i x, xs[i]? = some x → (i < (ct size xs).length ↔ x.1 < size)) ∧
    (∀ i x, i < (ct size xs).length → xs[i]? = some x → (ct size xs)[i]? = some (x.1, x.2.take (size - x.1))) ∧ ∀ i x, i + 1 < (ct size xs).length → xs[i]? = some x → en x ≤ size := by
  intro xs
  induction xs with
  | nil => intro k _; exact ⟨Nat.le_refl _, fun i x h => by simp at h, fun i x h => by simp [ct] at h, fun i x h => by simp [ct] at h⟩
  | cons y t ih =>
    intro k h
    obtain ⟨r1, r2, r3, r4⟩ := ih _ h.2.2
    rw [ct]
    by_cases hs : size ≤ y.1
    · rw [if_pos hs]
      refine ⟨Nat.zero_le _, fun i x hx => ?_, fun i x hi => by simp at hi, fun i x hi => by simp at hi⟩
      have hm := h.mem x (List.mem_of_getElem? hx)
      constructor
      · intro hi; simp at hi
      · intro hi
        cases i with
        | zero =>
          rw [List.getElem?_cons_zero] at hx
          injection hx with hx
          subst hx
          omega
        | succ i =>
          rw [List.getElem?_cons_succ] at hx
          have := (h.2.2.mem x (List.mem_of_getElem? hx)).1
          have e : en y = y.1 + y.2.length := rfl
          omega
    · rw [if_neg hs, List.length_cons]
      refine ⟨by rw [List.length_cons]; omega, fun i x hx => ?_, fun i x hi hx => ?_, fun i x hi hx => ?_⟩
      · cases i with
        | zero =>
          rw [List.getElem?_cons_zero] at hx
          injection hx with hx
          subst hx
          exact ⟨fun _ => by omega, fun _ => by omega⟩
        | succ i =>
          rw [List.getElem?_cons_succ] at hx
          rw [← r2 i x hx]
          omega
      · cases i with
        | zero =>
          rw [List.getElem?_cons_zero] at hx ⊢
          injection hx with hx
          subst hx
          rfl
        | succ i =>
          rw [List.getElem?_cons_succ] at hx ⊢
          exact r3 i x (by omega) hx
      · cases i with
        | zero =>
          rw [List.getElem?_cons_zero] at hx
          injection hx with hx
          subst hx
          cases t with
          | nil => simp [ct] at hi
          | cons u t =>
            have := (r2 0 u rfl).1 (by omega)
            have := h.2.2.1
            omega
        | succ i =>
          rw [List.getElem?_cons_succ] at hx
          exact r4 i x (by omega) hx
/-- The list cut off, the last piece as it was or cut. -/
theorem EC.cut_ {w : World} {cs : Array Value} {xs : List Ext} (h : EC w N cs xs) {k size : Nat} (hok : Ok k xs) (hlast : ∀ i x, i + 1 = (ct size xs).length → xs[i]? = some x → en x ≤ size) : EC w N cs (ct size xs) := by
  obtain ⟨r1, r2, r3, r4⟩ := ct_form size xs k hok
  intro j x hj
  have hlt := (List.getElem?_eq_some_iff.1 hj).1
  obtain ⟨y, hy⟩ : ∃ y, xs[j]? = some y := ⟨_, List.getElem?_eq_getElem (by omega)⟩
  have e := r3 j y hlt hy
  rw [hj] at e
  injection e with e
  have hen : en y ≤ size := by
    rcases Nat.lt_or_ge (j + 1) (ct size xs).length with h1 | h1
    · exact r4 j y h1 hy
    · exact hlast j y (by omega) hy
  have ey : en y = y.1 + y.2.length := rfl
  rw [List.take_of_length_le (by omega)] at e
  have e2 : x = y := e
  subst e2
  exact h j x hy
theorem EC.cut_last {w : World} {cs : Array Value} {xs : List Ext} (h : EC w N cs xs) {k size m : Nat} (hok : Ok k xs) (hm : m + 1 = (ct size xs).length) {x : Ext} (hx : xs[m]? = some x) {A : Option Addr} {c : Nat} (hA : cs[m * 2 + 1]? = some (.slice A x.2.length c)) (hgt : size < en x) :
    EC w N (cs.setIfInBounds (m * 2 + 1) (.slice A (size - x.1) (size - x.1))) (ct size xs) := by
  obtain ⟨r1, r2, r3, r4⟩ := ct_form size xs k hok
  intro j y hj
  have hlt := (List.getElem?_eq_some_iff.1 hj).1
  obtain ⟨u, hu⟩ : ∃ u, xs[j]? = some u := ⟨_, List.getElem?_eq_getElem (by omega)⟩
  have e := r3 j u hlt hu
  rw [hj] at e
  injection e with e
  obtain ⟨A', c', q1, q2, q3, q4⟩ := h j u hu
  have eu : en u = u.1 + u.2.length := rfl
  have hsz := (Array.getElem?_eq_some_iff.1 hA).1
  rcases Nat.lt_or_ge (j + 1) (ct size xs).length with h1 | h1
  · have hen := r4 j u h1 hu
    rw [List.take_of_length_le (by omega)] at e
    have e2 : y = u := e
    subst e2
    refine ⟨A', c', ?_, ?_, q3, q4⟩
    · rw [Array.getElem?_setIfInBounds_ne (by omega)]; exact q1
    · rw [Array.getElem?_setIfInBounds_ne (by omega)]; exact q2
  · obtain rfl : j = m := by omega
    have e2 : u = x := by rw [hu] at hx; injection hx
    subst e2
    rw [q2] at hA
    injection hA with hA
    injection hA with hA1 _ hA3
    subst hA1 hA3
    have hx1 : u.1 < size := (r2 j u hu).1 hlt
    have hyl : y.2.length = size - u.1 := by rw [e, List.length_take]; omega
    refine ⟨A', size - u.1, ?_, ?_, ⟨by omega, fun h0 => ?_⟩, q4⟩
    · rw [Array.getElem?_setIfInBounds_ne (by omega), e]; exact q1
    · rw [Array.getElem?_setIfInBounds_self_of_lt hsz, hyl]
    · obtain ⟨g, o, ks, fz, s1, s2, s3⟩ := q3.2 (by omega)
      refine ⟨g, o, ks, fz, s1, s2, fun i b hi => s3 i b ?_⟩
      rw [e, List.getElem?_take] at hi
      split at hi
      · exact hi
      · cases hi
theorem data_mk {w : World} {D size : Nat} {xs : List Ext} {lA : Option Addr} {c : Nat} (h1 : w.heap[D]? = some (.cells #[.bool true, .int .i64 (size : Int), .slice lA xs.length c] 49 (0, 0)))
    (h2 : (lA = none ∧ xs = [] ∧ c = 0) ∨ ∃ L cs, lA = some ⟨L, 0, none⟩ ∧ w.heap[L]? = some (.cells cs 41 (0, 0)) ∧ c * 2 ≤ cs.size ∧ xs.length ≤ c ∧ EC w N cs xs) : DataAt w N D size xs lA c := ⟨h1, h2⟩
theorem cut_end {w w5 : World} {D size size' cl m : Nat} {xs : List Ext} {lA : Option Addr} (h : DataAt w N D size xs lA cl) (hok : Ok 0 xs) (hm : (ct size' xs).length = m) (hb : Below (w.setCell ⟨D, 2, none⟩ (.slice lA m m)).heap.size (w.setCell ⟨D, 2, none⟩ (.slice lA m m)) w5)
    (hlast : ∀ i x, i + 1 = m → xs[i]? = some x → en x ≤ size') :
    DataAt (w5.setCell ⟨D, 1, none⟩ (.int .i64 (size' : Int))) N D size' (ct size' xs) lA m ∧ Fr w (w5.setCell ⟨D, 1, none⟩ (.int .i64 (size' : Int))) D lA := by
  subst hm
  have hDd := set_cell h.1 (j := 2) (.slice lA (ct size' xs).length (ct size' xs).length)
  have hD5 := kept_below hb _ _ hDd
  have hk : ∀ (g : Nat) (cs : Array Value) (fz : Nat × Nat), w.heap[g]? = some (Obj.cells cs 5 fz) → (w5.setCell ⟨D, 1, none⟩ (.int .i64 (size' : Int))).heap[g]? = some (Obj.cells cs 5 fz) := fun g cs fz hh => by
    have hne := ne_block hh h.1 (by decide)
    rw [set_other _ hne]
    exact kept_below hb _ _ ((set_other _ hne).trans hh)
  refine ⟨data_mk (by rw [set_cell hD5]; rfl) ?_, ?_⟩
  · rcases h.2 with ⟨r1, rfl, r3⟩ | ⟨L, cs, r1, hL, hs, hc, he⟩
    · exact .inl ⟨r1, rfl, rfl⟩
    · have hne := ne_block hL h.1 (by decide)
      have hle := (ct_form size' xs 0 hok).1
      refine .inr ⟨L, cs, r1, ?_, by omega, Nat.le_refl _, (he.cut_ hok hlast).kept hk⟩
      rw [set_other _ hne]
      exact kept_below hb _ _ ((set_other _ hne).trans hL)
  · have hsz : (w.setCell ⟨D, 2, none⟩ (.slice lA (ct size' xs).length (ct size' xs).length)).heap.size = w.heap.size := by show (w.heap.modify D _).size = _; rw [Array.size_modify]
    refine Fr.set ?_ 1 _
    refine ⟨hb.os, hb.tape, hb.output, by have := hb.size; omega, fun k hk h1 _ => ?_⟩
    rw [hb.block k (by omega), set_other _ h1]
theorem cut_end2 {w w5 : World} {D size size' cl m L : Nat} {xs : List Ext} {x : Ext} {A : Option Addr} {c : Nat} (h : DataAt w N D size xs (some ⟨L, 0, none⟩) cl) (hok : Ok 0 xs) (hm : (ct size' xs).length = m + 1) (hb : Below (w.setCell ⟨D, 2, none⟩ (.slice (some ⟨L, 0, none⟩) (m + 1) (m + 1))).heap.size (w.setCell ⟨D, 2, none⟩ (.slice (some ⟨L, 0, none⟩) (m + 1) (m + 1))) w5)
    (hx : xs[m]? = some x) (hcell : w.cell? ⟨L, m * 2 + 1, none⟩ = some (.slice A x.2.length c)) (hgt : size' < en x) :
    DataAt ((w5.setCell ⟨L, m * 2 + 1, none⟩ (.slice A (size' - x.1) (size' - x.1))).setCell ⟨D, 1, none⟩ (.int .i64 (size' : Int))) N D size' (ct size' xs) (some ⟨L, 0, none⟩) (m + 1) ∧
      Fr w ((w5.setCell ⟨L, m * 2 + 1, none⟩ (.slice A (size' - x.1) (size' - x.1))).setCell ⟨D, 1, none⟩ (.int .i64 (size' : Int))) D (some ⟨L, 0, none⟩) := by
  rcases h.2 with ⟨r1, _⟩ | ⟨L', cs, r1, hL, hs, hc, he⟩
  · cases r1
  · injection r1 with r1
    injection r1 with r1
    subst r1
    have hne := ne_block hL h.1 (by decide)
    have hDd := set_cell h.1 (j := 2) (.slice (some ⟨L, 0, none⟩) (m + 1) (m + 1))
    have hD5 := kept_below hb _ _ hDd
    have hL5 : w5.heap[L]? = some (.cells cs 41 (0, 0)) := kept_below hb _ _ ((set_other _ hne).trans hL)
    have hle := (ct_form size' xs 0 hok).1
    rw [Lib.cell_of_heap hL] at hcell
    have hk : ∀ (g : Nat) (cs : Array Value) (fz : Nat × Nat), w.heap[g]? = some (Obj.cells cs 5 fz) → ((w5.setCell ⟨L, m * 2 + 1, none⟩ (.slice A (size' - x.1) (size' - x.1))).setCell ⟨D, 1, none⟩ (.int .i64 (size' : Int))).heap[g]? = some (Obj.cells cs 5 fz) := fun g cs fz hh => by
      have hn1 := ne_block hh h.1 (by decide)
      have hn2 := ne_block hh hL (by decide)
      rw [set_other _ hn1, set_other _ hn2]
      exact kept_below hb _ _ ((set_other _ hn1).trans hh)
    refine ⟨data_mk (by rw [set_cell ((set_other _ (Ne.symm hne)).trans hD5), hm]; rfl) (.inr ⟨L, _, rfl, by rw [set_other _ hne, set_cell hL5], by rw [Array.size_setIfInBounds]; omega, by omega, (he.cut_last hok hm.symm hx hcell hgt).kept hk⟩), ?_⟩
    have hsz : (w.setCell ⟨D, 2, none⟩ (.slice (some ⟨L, 0, none⟩) (m + 1) (m + 1))).heap.size = w.heap.size := by show (w.heap.modify D _).size = _; rw [Array.size_modify]
    refine Fr.set ?_ 1 _
    refine ⟨hb.os, hb.tape, hb.output, by show _ ≤ (w5.heap.modify L _).size; rw [Array.size_modify]; have := hb.size; omega, fun k hk h1 h2 => ?_⟩
    rw [set_other _ (h2 L rfl), hb.block k (by omega), set_other _ h1]
set_option maxHeartbeats 16000000 in
set_option maxRecDepth 1000000 in
theorem Cut_calls (D size size' : Nat) (xs : List Ext) (lA : Option Addr) (cl : Nat) (w : World) (h : DataAt w N D size xs lA cl) (hok : Ok 0 xs) (hx : ∀ x ∈ xs, en x ≤ size) (hs : size ≤ 65536) (hs' : size' ≤ 65536) :
    Calls Try.prog 19 #[.pointer (some ⟨D, 0, none⟩), .int .i64 (size' : Int)] w fun e w' => e = .returned (.int .i64 0) ∧ ∃ c', DataAt w' N D size' (ct size' xs) lA c' ∧ Fr w w' D lA := by
  obtain ⟨q1, q2, q3, hD⟩ := h.cells
  have hlen := ok_len' hok hx
  have c1 := off_on D w q1
  obtain ⟨r1, r2, r3, r4⟩ := ct_form size' xs 0 hok
  generalize hm : (ct size' xs).length = m at *
  have hcl : xs.length ≤ cl := by
    rcases h.2 with ⟨_, rfl, rfl⟩ | ⟨_, _, _, _, _, h3, _⟩
    · exact Nat.le_refl _
    · exact h3
  have C1 := Lib.hid c1
  have HD := Lib.hid h
  have HR2 := Lib.hid r2
  have HR4 := Lib.hid r4
  have HOK := Lib.hid hok
  have HX := Lib.hid hx
  have HM := Lib.hid hm
  generalize hnn : xs.length = nn at *
  have HL := Lib.hid hnn
  have d1 : decide ((size' : Int) < 0) = false := by simp
  have d2 : decide ((65536 : Int) < (size' : Int)) = false := by simp; omega
  have f1 : w.frozen? ⟨D, 2, none⟩ = false := Lib.frozen_of_heap h.1 2
  clear c1 h r2 r3 r4 hok hx hm hnn
  go_enter Try.func19, Try.ntmps19
  go_wp2_with fail
  refine (C1.out).mono ?_
  rintro e w1 ⟨rfl, rfl⟩
  go_wp2_with fail
  go_loopg [5] nn (fun g v wr => ∃ i : Nat, v = .int .i64 (i : Int) ∧ m ≤ i ∧ i ≤ nn ∧ i = g ∧ wr = w1)
  case atStart => exact ⟨nn, rfl, r1, Nat.le_refl _, rfl, rfl⟩
  case round =>
    obtain ⟨i, rfl, hi, hin, rfl, rfl⟩ := hrel
    by_cases him : m < i
    · obtain ⟨x, hxi⟩ : ∃ x, xs[i - 1]? = some x := ⟨_, List.getElem?_eq_getElem (by have := HL.out; omega)⟩
      have hsx : size' ≤ x.1 := by
        rcases Nat.lt_or_ge x.1 size' with h | h
        · have := (HR2.out (i - 1) x hxi).2 h
          omega
        · exact h
      obtain ⟨L, A, c', rfl, hL, q4, q5, _⟩ := HD.out.piece hxi
      have d3 : decide ((size' : Int) ≤ (x.1 : Int)) = true := by simp; omega
      have i1 : (i : Int) - 1 < (nn : Int) := by omega
      have i2 : (1 : Int) ≤ (i : Int) := by omega
      clear hxi
      go_wp2_with fail
      go_roundg (i - 1)
      case measure => omega
      case rel => exact ⟨i - 1, by rw [Int.natCast_sub (by omega)]; rfl, by omega, by omega, rfl, rfl⟩
    · have him2 : i = m := by omega
      subst him2
      have hDD : (wr.setCell ⟨D, 2, none⟩ (.slice lA i i)).heap[D]? = some (.cells #[.bool true, .int .i64 (size : Int), .slice lA i i] 49 (0, 0)) := by
        rw [set_cell HD.out.1]
        rfl
      have hsz : (wr.setCell ⟨D, 2, none⟩ (.slice lA i i)).heap.size = wr.heap.size := by show (wr.heap.modify D _).size = _; rw [Array.size_modify]
      obtain ⟨wd, hwd⟩ : ∃ wd, wr.setCell ⟨D, 2, none⟩ (.slice lA i i) = wd := ⟨_, rfl⟩
      rw [hwd] at hDD hsz
      have q6 : wd.cell? ⟨D, 1, none⟩ = some (.int .i64 (size : Int)) := by rw [Lib.cell_of_heap hDD]; rfl
      have q7 : wd.cell? ⟨D, 2, none⟩ = some (.slice lA i i) := by rw [Lib.cell_of_heap hDD]; rfl
      have f2 : wd.frozen? ⟨D, 1, none⟩ = false := Lib.frozen_of_heap hDD 1
      have HWD := Lib.hid hwd
      have HSZ := Lib.hid hsz
      clear hsz hDD
      have i3 : (i : Int) ≤ (cl : Int) := by omega
      rcases Nat.eq_zero_or_pos i with hi0 | hi0
      · subst hi0
        clear him hi hin i3
        have hend := cut_end HD.out HOK.out HM.out (by rw [HWD.out]; exact Below.refl _ _) (fun i x h _ => by omega)
        have HEND := Lib.hid hend
        clear hend
        rcases HD.out.head with rfl | ⟨L, rfl⟩
        all_goals
          go_wp2_with fail
          go_ret
          exact ⟨rfl, _, HEND.out⟩
      · obtain ⟨m, rfl⟩ : ∃ m, i = m + 1 := ⟨i - 1, by omega⟩
        obtain ⟨x, hxi⟩ : ∃ x, xs[m]? = some x := ⟨_, List.getElem?_eq_getElem (by have := HL.out; omega)⟩
        have hxs : x.1 < size' := (HR2.out m x hxi).1 (by omega)
        have hxe := HX.out x (List.mem_of_getElem? hxi)
        have ex : en x = x.1 + x.2.length := rfl
        obtain ⟨L, A, c', rfl, hL, q4, q5, hBR⟩ := HD.out.piece hxi
        have hLD := HD.out.lA_lt L rfl
        have hcells : wd.cell? ⟨L, m * 2, none⟩ = some (.int .i64 (x.1 : Int)) ∧ wd.cell? ⟨L, m * 2 + 1, none⟩ = some (.slice A x.2.length c') ∧ wd.frozen? ⟨L, m * 2 + 1, none⟩ = false := by
          rcases HD.out.2 with ⟨r, _⟩ | ⟨L', cs, r, hL', _⟩
          · cases r
          · injection r with r
            injection r with r
            subst r
            have h3 : wd.heap[L]? = wr.heap[L]? := by rw [← HWD.out]; exact set_other _ hLD.2
            exact ⟨(World.cell?_of_block (a := ⟨L, m * 2, none⟩) h3).trans q4, (World.cell?_of_block (a := ⟨L, m * 2 + 1, none⟩) h3).trans q5, Lib.frozen_of_heap (h3.trans hL') _⟩
        obtain ⟨q8, q9, f3⟩ := hcells
        have d3 : decide ((size' : Int) ≤ (x.1 : Int)) = false := by simp; omega
        have i4 : (m : Int) < (nn : Int) := by omega
        have ce := fun W => end_calls x.1 x.2.length c' A W (by omega)
        have hLw : L < wd.heap.size := by rw [HSZ.out]; exact hL
        have hDw : D < wd.heap.size := by rw [HSZ.out]; exact hD
        have CE := Lib.hid ce
        have HXI := Lib.hid hxi
        have HEN := Lib.hid ex
        have HBR := Lib.hid hBR
        have hm1 : ((m + 1 : Nat) : Int) = (m : Int) + 1 := Int.natCast_succ m
        clear ce hxi ex hBR him hi
        go_wp2_with fail
        refine (CE.out _).mono ?_
        rintro e w5 ⟨rfl, hb5⟩
        have q10 := (hb5.cell (p := ⟨D, 1, none⟩) hDw).trans q6
        have q11 := (hb5.cell (p := ⟨D, 2, none⟩) hDw).trans q7
        have q12 := (hb5.cell (p := ⟨L, m * 2, none⟩) hLw).trans q8
        have q13 := (hb5.cell (p := ⟨L, m * 2 + 1, none⟩) hLw).trans q9
        have f4 := (hb5.frozen (p := ⟨D, 1, none⟩) hDw).trans f2
        have f5 := (hb5.frozen (p := ⟨L, m * 2 + 1, none⟩) hLw).trans f3
        have HB5 := Lib.hid hb5
        clear hb5 q1 q2 q3 q6 q7 q8 q9 f1 f2 f3
        by_cases hgt : size' < en x
        · have hgi : (size' : Int) < (x.1 : Int) + (x.2.length : Int) := by have := HEN.out; omega
          go_wp2_with fail
          obtain ⟨k, hk⟩ : ∃ k, size' - x.1 = k := ⟨_, rfl⟩
          obtain ⟨gA, oA, rfl, _, _⟩ := HBR.out.cells (by have := HEN.out; omega)
          have hki : (size' : Int) - (x.1 : Int) = (k : Int) := by omega
          have hkc : k ≤ c' := by have := HBR.out.1; have := HEN.out; omega
          have hkci : (k : Int) ≤ (c' : Int) := by omega
          have w1e : IntKind.i64.wrap (k : Int) = (k : Int) := wrap_small _ (by omega) (by omega)
          have w2e : IntKind.i64.wrap ((size' : Int) - (x.1 : Int)) = (k : Int) := by rw [hki, w1e]
          have hend := cut_end2 HD.out HOK.out HM.out (by rw [HWD.out]; exact HB5.out) HXI.out q5 hgt
          rw [hk] at hend
          have HEND := Lib.hid hend
          have hDL : D ≠ L := Ne.symm hLD.2
          have q14 : (w5.setCell ⟨L, m * 2 + 1, none⟩ (.slice (some ⟨gA, oA, none⟩) k k)).cell? ⟨D, 1, none⟩ = some (.int .i64 (size : Int)) := (World.cell?_setCell_other _ _ _ _ (fun e => by injection e with e; exact hLD.2 e)).trans q10
          have f6 : (w5.setCell ⟨L, m * 2 + 1, none⟩ (.slice (some ⟨gA, oA, none⟩) k k)).frozen? ⟨D, 1, none⟩ = false := (World.frozen?_of_block (a := ⟨D, 1, none⟩) (set_other _ hDL)).trans f4
          clear hend hk
          refine AnyL.start (fun w' => w'.cell? ⟨L, m * 2, none⟩ = some (.int .i64 (x.1 : Int)) ∧ w'.cell? ⟨L, m * 2 + 1, none⟩ = some (.slice (some ⟨gA, oA, none⟩) x.2.length c') ∧ w'.frozen? ⟨L, m * 2 + 1, none⟩ = false) 20 (by kernel_rfl) ⟨q12, q13, f5⟩ (fun hHeld => ?_)
          refine AnyL.take (i := 0) (v := ?vy0) rfl (by kernel_rfl) (by kernel_rfl) (by kernel_rfl) (by kernel_rfl) (fun _ _ _ h => h) (by assumption) (Or.inl ⟨by rfl, ?y0⟩) ?ry0
          case y0 => (intro w hSw; (try dsimp only at hSw); go_simp; try with_reducible rfl)
          try simp only [Act.put, List.setIfInBounds_toArray, List.set_cons_zero, List.set_cons_succ]
          refine AnyL.take (i := 1) (v := ?vy1) rfl (by kernel_rfl) (by kernel_rfl) (by kernel_rfl) (by kernel_rfl) (fun _ _ _ h => h) (by assumption) (Or.inl ⟨by rfl, ?y1⟩) ?ry1
          case y1 => (intro w hSw; (try dsimp only at hSw); go_simp; try with_reducible rfl)
          try simp only [Act.put, List.setIfInBounds_toArray, List.set_cons_zero, List.set_cons_succ]
          refine AnyL.take (i := 2) (v := ?vy2) rfl (by kernel_rfl) (by kernel_rfl) (by kernel_rfl) (by kernel_rfl) (fun _ _ _ h => h) (by assumption) (Or.inl ⟨by rfl, ?y2⟩) ?ry2
          case y2 => (intro w hSw; (try dsimp only at hSw); go_simp; try with_reducible rfl)
          try simp only [Act.put, List.setIfInBounds_toArray, List.set_cons_zero, List.set_cons_succ]
          refine AnyL.take (i := 3) (v := ?vy3) rfl (by kernel_rfl) (by kernel_rfl) (by kernel_rfl) (by kernel_rfl) (fun _ _ _ h => h) (by assumption) (Or.inl ⟨by rfl, ?y3⟩) ?ry3
          case y3 => (intro w hSw; (try dsimp only at hSw); go_simp; try with_reducible rfl)
          try simp only [Act.put, List.setIfInBounds_toArray, List.set_cons_zero, List.set_cons_succ]
          refine AnyL.take (i := 4) (v := ?vy4) rfl (by kernel_rfl) (by kernel_rfl) (by kernel_rfl) (by kernel_rfl) (fun _ _ _ h => h) (by assumption) (Or.inl ⟨by rfl, ?y4⟩) ?ry4
          case y4 => (intro w hSw; (try dsimp only at hSw); go_simp; try with_reducible rfl)
          try simp only [Act.put, List.setIfInBounds_toArray, List.set_cons_zero, List.set_cons_succ]
          refine AnyL.take (i := 5) (v := ?vy5) rfl (by kernel_rfl) (by kernel_rfl) (by kernel_rfl) (by kernel_rfl) (fun _ _ _ h => h) (by assumption) (Or.inl ⟨by rfl, ?y5⟩) ?ry5
          case y5 => (intro w hSw; (try dsimp only at hSw); go_simp; try with_reducible rfl)
          try simp only [Act.put, List.setIfInBounds_toArray, List.set_cons_zero, List.set_cons_succ]
          refine AnyL.take (i := 6) (v := ?vy6) rfl (by kernel_rfl) (by kernel_rfl) (by kernel_rfl) (by kernel_rfl) (fun _ _ _ h => h) (by assumption) (Or.inl ⟨by rfl, ?y6⟩) ?ry6
          case y6 => (intro w hSw; (try dsimp only at hSw); go_simp; try with_reducible rfl)
          try simp only [Act.put, List.setIfInBounds_toArray, List.set_cons_zero, List.set_cons_succ]
          refine AnyL.take (i := 7) (v := ?vy7) rfl (by kernel_rfl) (by kernel_rfl) (by kernel_rfl) (by kernel_rfl) (fun _ _ _ h => h) (by assumption) (Or.inl ⟨by rfl, ?y7⟩) ?ry7
          case y7 => (intro w hSw; (try dsimp only at hSw); go_simp; try with_reducible rfl)
          try simp only [Act.put, List.setIfInBounds_toArray, List.set_cons_zero, List.set_cons_succ]
          refine AnyL.take (i := 8) (v := ?vy8) rfl (by kernel_rfl) (by kernel_rfl) (by kernel_rfl) (by kernel_rfl) (fun _ _ _ h => h) (by assumption) (Or.inl ⟨by rfl, ?y8⟩) ?ry8
          case y8 => (intro w hSw; (try dsimp only at hSw); go_simp; try with_reducible rfl)
          try simp only [Act.put, List.setIfInBounds_toArray, List.set_cons_zero, List.set_cons_succ]
          refine AnyL.take (i := 9) (v := ?vy9) rfl (by kernel_rfl) (by kernel_rfl) (by kernel_rfl) (by kernel_rfl) (fun _ _ _ h => h) (by assumption) (Or.inl ⟨by rfl, ?y9⟩) ?ry9
          case y9 => (intro w hSw; (try dsimp only at hSw); go_simp; try with_reducible rfl)
          try simp only [Act.put, List.setIfInBounds_toArray, List.set_cons_zero, List.set_cons_succ]
          refine AnyL.take (i := 10) (v := ?vy10) rfl (by kernel_rfl) (by kernel_rfl) (by kernel_rfl) (by kernel_rfl) (fun _ _ _ h => h) (by assumption) (Or.inl ⟨by rfl, ?y10⟩) ?ry10
          case y10 => (intro w hSw; (try dsimp only at hSw); go_simp; try with_reducible rfl)
          try simp only [Act.put, List.setIfInBounds_toArray, List.set_cons_zero, List.set_cons_succ]
          refine AnyL.take (i := 11) (v := ?vy11) rfl (by kernel_rfl) (by kernel_rfl) (by kernel_rfl) (by kernel_rfl) (fun _ _ _ h => h) (by assumption) (Or.inl ⟨by rfl, ?y11⟩) ?ry11
          case y11 => (intro w hSw; (try dsimp only at hSw); go_simp; try with_reducible rfl)
          try simp only [Act.put, List.setIfInBounds_toArray, List.set_cons_zero, List.set_cons_succ]
          refine AnyL.take (i := 12) (v := ?vy12) rfl (by kernel_rfl) (by kernel_rfl) (by kernel_rfl) (by kernel_rfl) (fun _ _ _ h => h) (by assumption) (Or.inl ⟨by rfl, ?y12⟩) ?ry12
          case y12 => (intro w hSw; (try dsimp only at hSw); go_simp; try with_reducible rfl)
          try simp only [Act.put, List.setIfInBounds_toArray, List.set_cons_zero, List.set_cons_succ]
          refine AnyL.take (i := 13) (v := ?vy13) rfl (by kernel_rfl) (by kernel_rfl) (by kernel_rfl) (by kernel_rfl) (fun _ _ _ h => h) (by assumption) (Or.inl ⟨by rfl, ?y13⟩) ?ry13
          case y13 => (intro w hSw; (try dsimp only at hSw); go_simp; try with_reducible rfl)
          try simp only [Act.put, List.setIfInBounds_toArray, List.set_cons_zero, List.set_cons_succ]
          refine AnyL.take (i := 14) (v := ?vy14) rfl (by kernel_rfl) (by kernel_rfl) (by kernel_rfl) (by kernel_rfl) (fun _ _ _ h => h) (by assumption) (Or.inl ⟨by rfl, ?y14⟩) ?ry14
          case y14 => (intro w hSw; (try dsimp only at hSw); go_simp; try with_reducible rfl)
          try simp only [Act.put, List.setIfInBounds_toArray, List.set_cons_zero, List.set_cons_succ]
          refine AnyL.take (i := 15) (v := ?vy15) rfl (by kernel_rfl) (by kernel_rfl) (by kernel_rfl) (by kernel_rfl) (fun _ _ _ h => h) (by assumption) (Or.inl ⟨by rfl, ?y15⟩) ?ry15
          case y15 => (intro w hSw; (try dsimp only at hSw); go_simp; try with_reducible rfl)
          try simp only [Act.put, List.setIfInBounds_toArray, List.set_cons_zero, List.set_cons_succ]
          refine AnyL.take (i := 16) (v := ?vy16) rfl (by kernel_rfl) (by kernel_rfl) (by kernel_rfl) (by kernel_rfl) (fun _ _ _ h => h) (by assumption) (Or.inl ⟨by rfl, ?y16⟩) ?ry16
          case y16 => (intro w hSw; (try dsimp only at hSw); go_simp; try with_reducible rfl)
          try simp only [Act.put, List.setIfInBounds_toArray, List.set_cons_zero, List.set_cons_succ]
          refine AnyL.take (i := 17) (v := ?vy17) rfl (by kernel_rfl) (by kernel_rfl) (by kernel_rfl) (by kernel_rfl) (fun _ _ _ h => h) (by assumption) (Or.inl ⟨by rfl, ?y17⟩) ?ry17
          case y17 => (intro w hSw; (try dsimp only at hSw); go_simp; try with_reducible rfl)
          try simp only [Act.put, List.setIfInBounds_toArray, List.set_cons_zero, List.set_cons_succ]
          refine AnyL.one (i := 18) (by kernel_rfl) rfl (fun K hK => ?_)
          go_simp
          refine hK.out _ _ (.inr hHeld) ?_
          clear hK K
          try simp only [Act.put, List.setIfInBounds_toArray, List.set_cons_zero, List.set_cons_succ]
          refine AnyL.take (i := 19) (v := ?vy19) rfl (by kernel_rfl) (by kernel_rfl) (by kernel_rfl) (by kernel_rfl) (fun _ _ _ h => h) (by assumption) (Or.inl ⟨by rfl, ?y19⟩) ?ry19
          case y19 => (intro w hSw; (try dsimp only at hSw); go_simp; try with_reducible rfl)
          try simp only [Act.put, List.setIfInBounds_toArray, List.set_cons_zero, List.set_cons_succ]
          refine AnyL.one (i := 20) (by kernel_rfl) rfl (fun K hK => ?_)
          go_simp
          refine hK.out _ _ (.inl rfl) ?_
          clear hK K
          refine AnyL.done (by kernel_rfl) ?_ _
          obtain ⟨w6, hw6⟩ : ∃ w6, w5.setCell ⟨L, m * 2 + 1, none⟩ (.slice (some ⟨gA, oA, none⟩) k k) = w6 := ⟨_, rfl⟩
          rw [hw6] at q14 f6 HEND
          rw [hw6]
          go_wp2_with fail
          go_ret
          exact ⟨rfl, _, HEND.out.1.drew, HEND.out.2.drew⟩
        · have hgi : (x.1 : Int) + (x.2.length : Int) ≤ (size' : Int) := by have := HEN.out; omega
          have hend := cut_end HD.out HOK.out HM.out (by rw [HWD.out]; exact HB5.out) (fun i y h hy => by
            have e : i = m := by omega
            subst e
            rw [HXI.out] at hy
            injection hy with hy
            subst hy
            omega)
          have HEND := Lib.hid hend
          clear hend
          go_wp2_with fail
          go_ret
          exact ⟨rfl, _, HEND.out⟩
end Go.Proofs.Ytjochldpacgcgaa.U
