/- extent: New, Size; bytes, and pieces, that are the same; the document's own example. -/
import Derived.Test.YtjochldpacgcgaaEtwo
import Derived.Lib.SmallJoins
import Derived.Test.YtjochldpacgcgaaPRx11
set_option linter.unusedVariables false
set_option linter.unusedSimpArgs false
namespace Go.Proofs.Ytjochldpacgcgaa.U
open Go.RowKit Go.Proofs Go.Lib Go.Proofs.YtjochldpacgcgaaW.PrintWords Go.Proofs.Ytjochldpacgcgaa.PR

variable {N : Nat → Prop}
set_option maxHeartbeats 1000000 in
theorem New_calls (w : World) :
    Calls Try.prog 25 #[] w fun e w' => e = .returned (.pointer (some ⟨w.heap.size, 0, none⟩)) ∧ DataAt w' N w.heap.size 0 [] none 0 ∧ Below w.heap.size w w' := by
  go_enter Try.func25, Try.ntmps25
  go_wp2
  go_ret
  exact ⟨rfl, ⟨heap_alloc_new w _, .inl ⟨rfl, rfl, rfl⟩⟩, (Below.refl _ _).alloc (Nat.le_refl _) _⟩
set_option maxHeartbeats 1000000 in
theorem Size_calls (D size : Nat) (xs : List Ext) (lA : Option Addr) (c : Nat) (w : World) (h : DataAt w N D size xs lA c) :
    Calls Try.prog 17 #[.pointer (some ⟨D, 0, none⟩)] w fun e w' => e = .returned (.int .i64 (size : Int)) ∧ w' = w := by
  obtain ⟨q1, q2, q3, hD⟩ := h.cells
  have C1 := Lib.hid (off_on D w q1)
  clear h
  go_enter Try.func17, Try.ntmps17
  go_wp2_with fail
  refine (C1.out).mono ?_
  rintro e w1 ⟨rfl, rfl⟩
  go_wp2
  go_ret
  exact ⟨rfl, rfl⟩
set_option maxHeartbeats 2000000 in
theorem Read_end (D size p n : Nat) (xs : List Ext) (lA : Option Addr) (c : Nat) (w : World) (h : DataAt w N D size xs lA c) (hn : 0 < n) (hp : size ≤ p) :
    Calls Try.prog 13 #[.pointer (some ⟨D, 0, none⟩), .int .i64 (p : Int), .int .i64 (n : Int)] w fun e w' => e = .returned (.tuple #[.slice none 0 0, .int .i64 22]) ∧ w' = w := by
  obtain ⟨q1, q2, q3, hD⟩ := h.cells
  have C1 := Lib.hid (off_on D w q1)
  have d1 : decide ((p : Int) < 0) = false := by simp
  have d2 : decide ((n : Int) < 0) = false := by simp
  have d3 : ((n : Int) == 0) = false := by simp; omega
  have d4 : decide ((size : Int) ≤ (p : Int)) = true := by simp; omega
  clear h
  go_enter Try.func13, Try.ntmps13
  go_wp2_with fail
  refine (C1.out).mono ?_
  rintro e w1 ⟨rfl, rfl⟩
  go_wp2
  go_ret2
  exact ⟨rfl, rfl⟩
theorem same_four : refectoryref00_Same.f 10 [0, 0, 97, 98] [0, 0, 97, 98] = some true := by decide +kernel
theorem row_C {w : World} {O : Nat} {bs : List Int} {fz : Nat × Nat} (h : w.heap[O]? = some (.cells (nums .u8 bs).toArray 5 fz)) (hl : bs.length ≤ 140737488355328) : Kd.C (Kd.int .u8) w (some ⟨O, 0, none⟩) bs.length bs := by
  refine Kd.C_of_reads (d := (0 : Int)) (h1 := fun _ => rfl) ⟨rfl, by omega, fun _ => ⟨_, rfl, fun j hj => ?_⟩⟩
  have e2 : (⟨O, 0, none⟩ : Addr).add j = ⟨O, j, none⟩ := by
    unfold Addr.add
    split
    · rename_i h; subst h; rfl
    · show (⟨O, 0 + j, none⟩ : Addr) = _
      rw [Nat.zero_add]
  rw [e2, Lib.cell_of_heap h]
  simp [nums, hj]
theorem BA_C {w : World} {A : Option Addr} {c : Nat} {bs : List Int} (h : BA w A c bs) (hl : bs.length ≤ 140737488355328) : Kd.C (Kd.int .u8) w A bs.length bs := by
  refine Kd.C_of_reads (d := (0 : Int)) (h1 := fun _ => rfl) ⟨rfl, by omega, fun h0 => ?_⟩
  obtain ⟨g, o, rfl, _, hc⟩ := h.2 h0
  exact ⟨_, rfl, fun j hj => hc j _ (by simp [nums, hj])⟩
theorem same_l0 (l : List Int) (hl : l.length ≤ 140737488355328) : ∀ (d i : Nat), i + d = l.length → ∀ k, d < k → refectoryref00_Same.l0 k l l (i : Int) = some true := by
  intro d
  induction d with
  | zero =>
    intro i hi k hk
    obtain ⟨k, rfl⟩ : ∃ m, k = m + 1 := ⟨k - 1, by omega⟩
    simp only [refectoryref00_Same.l0]
    rw [if_neg (by omega)]
  | succ d ih =>
    intro i hi k hk
    obtain ⟨k, rfl⟩ : ∃ m, k = m + 1 := ⟨k - 1, by omega⟩
    simp only [refectoryref00_Same.l0]
    rw [if_pos (by omega), if_pos (by omega), if_pos (by omega)]
    have e : wrap64 ((i : Int) + 1) = ((i + 1 : Nat) : Int) := by unfold wrap64; omega
    rw [if_pos trivial, e]
    exact ih (i + 1) (by omega) k (by omega)
theorem same_refl (l : List Int) (hl : l.length ≤ 140737488355328) : refectoryref00_Same.f (l.length + 1) l l = some true := by
  unfold refectoryref00_Same.f
  rw [if_pos rfl]
  exact same_l0 l hl l.length 0 (Nat.zero_add _) _ (Nat.lt_succ_self _)
/-- Bytes that are the same. -/
theorem Same_eq (A1 A2 : Option Addr) (c1 c2 : Nat) (bs : List Int) (w : World) (h1 : BA w A1 c1 bs) (h2 : BA w A2 c2 bs) (hl : bs.length ≤ 140737488355328) :
    Calls Try.prog 15 #[.slice A1 bs.length c1, .slice A2 bs.length c2] w fun e w' => e = .returned (.bool true) ∧ Below w.heap.size w w' := by
  refine (refectoryref00_Same.calls (bs.length + 1) A1 c1 bs A2 c2 bs true w (BA_C h1 hl) h1.1 (BA_C h2 hl) h2.1 (same_refl bs hl)).mono ?_
  rintro e w' ⟨rfl, hd⟩
  exact ⟨rfl, hd.below⟩
theorem NewX.at_ {w : World} {base : Nat} {v : Value} {xs : List Ext} (h : NewX w base v xs) {i : Nat} {x : Ext} (hi : xs[i]? = some x) :
    ∃ L c A ca, v = .slice (some ⟨L, 0, none⟩) xs.length c ∧ xs.length ≤ c ∧ base ≤ L ∧ L < w.heap.size ∧ w.cell? ⟨L, i * 2, none⟩ = some (.int .i64 (x.1 : Int)) ∧ w.cell? ⟨L, i * 2 + 1, none⟩ = some (.slice A x.2.length ca) ∧ BR w A ca x.2 ∧ ∀ g o, A = some ⟨g, o, none⟩ → base ≤ g := by
  obtain ⟨l, h1, h2, h3, _⟩ := h
  rcases h1.2 with ⟨rfl, h0⟩ | ⟨L, c, sp, rfl, hL, hnc, hc⟩
  · obtain rfl : xs = [] := List.eq_nil_of_length_eq_zero h0
    simp at hi
  · obtain ⟨A, ca, q1, q2, q3, q4⟩ := (h2.more h1.1 (sp := sp)) i x hi
    refine ⟨L, c, A, ca, rfl, hnc, h3 L rfl, (Array.getElem?_eq_some_iff.1 hL).1, by rw [Lib.cell_of_heap hL]; exact q1, by rw [Lib.cell_of_heap hL]; exact q2, q3, fun g o e => ?_⟩
    have := q4 g o e
    omega
set_option maxHeartbeats 8000000 in
set_option maxRecDepth 1000000 in
/-- Pieces that are the same. -/
theorem Ext_same (b1 b2 : Nat) (v1 v2 : Value) (xs : List Ext) (w : World) (h1 : NewX w b1 v1 xs) (h2 : NewX w b2 v2 xs) (hl : xs.length ≤ 1000000000) (hb : ∀ x ∈ xs, x.2.length ≤ 1000000000) :
    Calls Try.prog 24 #[v1, v2] w fun e w' => e = .returned (.bool true) ∧ Below w.heap.size w w' := by
  obtain ⟨A1, c1, rfl⟩ := h1.length
  obtain ⟨A2, c2, rfl⟩ := h2.length
  generalize hn : xs.length = n at *
  have H1 := Lib.hid h1
  have H2 := Lib.hid h2
  have HB := Lib.hid hb
  have HN := Lib.hid hn
  clear h1 h2 hb hn
  go_enter Try.func24, Try.ntmps24
  go_wp2_with fail
  go_loopg [5] n (fun g v5 wr => ∃ i : Nat, v5 = .int .i64 (i : Int) ∧ i + g = n ∧ Below w.heap.size w wr)
  case atStart => exact ⟨0, rfl, Nat.zero_add _, Below.refl _ _⟩
  case round =>
    obtain ⟨i, rfl, hig, hbw⟩ := hrel
    have HBW := Lib.hid hbw
    have HIG := Lib.hid hig
    clear hbw
    by_cases hin : i < n
    · have d1 : decide ((i : Int) < (n : Int)) = true := by simp; omega
      have i1 : (i : Int) < (n : Int) := by omega
      obtain ⟨x, hx⟩ : ∃ x, xs[i]? = some x := ⟨_, List.getElem?_eq_getElem (by rw [HN.out]; exact hin)⟩
      obtain ⟨L1, k1, B1, d1', e1, _, _, _, q1, q2, r1, _⟩ := (H1.out.below HBW.out).at_ hx
      obtain ⟨L2, k2, B2, d2', e2, _, _, _, q3, q4, r2, _⟩ := (H2.out.below HBW.out).at_ hx
      injection e1 with e1 f1 g1
      injection e2 with e2 f2 g2
      clear f1 f2 g1 g2
      subst e1 e2
      have hxl : x.2.length ≤ 140737488355328 := Nat.le_trans (HB.out x (List.mem_of_getElem? hx)) (by decide)
      have cv1 := Kd.C_string (P := Try.prog) (A := B1) (c := d1') Try.underlying29 Try.underlying5 Try.underlying9 (BA_C r1.ba hxl)
      have cv2 := Kd.C_string (P := Try.prog) (A := B2) (c := d2') Try.underlying29 Try.underlying5 Try.underlying9 (BA_C r2.ba hxl)
      have hS : (fun w' : World => w'.cell? ⟨L1, i * 2, none⟩ = some (.int .i64 (x.1 : Int)) ∧ w'.cell? ⟨L1, i * 2 + 1, none⟩ = some (.slice B1 x.2.length d1') ∧ w'.cell? ⟨L2, i * 2, none⟩ = some (.int .i64 (x.1 : Int)) ∧ w'.cell? ⟨L2, i * 2 + 1, none⟩ = some (.slice B2 x.2.length d2') ∧ (convert 29 9 (.slice B1 x.2.length d1')).run Try.prog w' = .ok (.string (strOfNums x.2)) w' ∧ (convert 29 9 (.slice B2 x.2.length d2')).run Try.prog w' = .ok (.string (strOfNums x.2)) w') wr.drew := by
        refine ⟨q1, q2, q3, q4, ?_, ?_⟩
        · exact Kd.C_string (P := Try.prog) (A := B1) (c := d1') Try.underlying29 Try.underlying5 Try.underlying9 (BA_C (w := wr.drew) (r1.kept (w' := wr.drew) fun _ _ _ h => h).ba hxl)
        · exact Kd.C_string (P := Try.prog) (A := B2) (c := d2') Try.underlying29 Try.underlying5 Try.underlying9 (BA_C (w := wr.drew) (r2.kept (w' := wr.drew) fun _ _ _ h => h).ba hxl)
      have HS := Lib.hid hS
      clear cv1 cv2 hS r1 r2 hx q1 q2 q3 q4 hig
      go_wp2_with fail
      refine AnyL.start (fun w' : World => w'.cell? ⟨L1, i * 2, none⟩ = some (.int .i64 (x.1 : Int)) ∧ w'.cell? ⟨L1, i * 2 + 1, none⟩ = some (.slice B1 x.2.length d1') ∧ w'.cell? ⟨L2, i * 2, none⟩ = some (.int .i64 (x.1 : Int)) ∧ w'.cell? ⟨L2, i * 2 + 1, none⟩ = some (.slice B2 x.2.length d2') ∧ (convert 29 9 (.slice B1 x.2.length d1')).run Try.prog w' = .ok (.string (strOfNums x.2)) w' ∧ (convert 29 9 (.slice B2 x.2.length d2')).run Try.prog w' = .ok (.string (strOfNums x.2)) w') 99 (by kernel_rfl) HS.out (fun hHeld => ?_)
      refine AnyL.take (i := 0) (v := ?vy0) rfl (by kernel_rfl) (by kernel_rfl) (by kernel_rfl) (by kernel_rfl) (fun _ _ _ h => h) (by assumption) (Or.inl ⟨by rfl, ?y0⟩) ?ry0
      case y0 => (intro w hSw; (try dsimp only at hSw); go_simp; try with_reducible rfl)
      try simp only [Act.put, List.setIfInBounds_toArray, List.set_cons_zero, List.set_cons_succ]
      refine AnyL.take (i := 1) (v := ?vy1) rfl (by kernel_rfl) (by kernel_rfl) (by kernel_rfl) (by kernel_rfl) (fun _ _ _ h => h) (by assumption) (Or.inl ⟨by rfl, ?y1⟩) ?ry1
      case y1 => (intro w hSw; (try dsimp only at hSw); go_simp; try with_reducible rfl)
      try simp only [Act.put, List.setIfInBounds_toArray, List.set_cons_zero, List.set_cons_succ]
      refine AnyL.take (i := 2) (v := ?vy2) rfl (by kernel_rfl) (by kernel_rfl) (by kernel_rfl) (by kernel_rfl) (fun _ _ _ h => h) (by assumption) (Or.inl ⟨by rfl, ?y2⟩) ?ry2
      case y2 => (intro w hSw; (try dsimp only at hSw); go_simp; try with_reducible rfl)
      try simp only [Act.put, List.setIfInBounds_toArray, List.set_cons_zero, List.set_cons_succ]
      refine AnyL.take (i := 3) (v := ?vy3) rfl (by kernel_rfl) (by kernel_rfl) (by kernel_rfl) (by kernel_rfl) (fun _ _ _ h => h) (by assumption) (Or.inl ⟨by rfl, ?y3⟩) ?ry3
      case y3 => (intro w hSw; (try dsimp only at hSw); go_simp; try with_reducible rfl)
      try simp only [Act.put, List.setIfInBounds_toArray, List.set_cons_zero, List.set_cons_succ]
      refine AnyL.take (i := 4) (v := ?vy4) rfl (by kernel_rfl) (by kernel_rfl) (by kernel_rfl) (by kernel_rfl) (fun _ _ _ h => h) (by assumption) (Or.inl ⟨by rfl, ?y4⟩) ?ry4
      case y4 => (intro w hSw; (try dsimp only at hSw); go_simp; try with_reducible rfl)
      try simp only [Act.put, List.setIfInBounds_toArray, List.set_cons_zero, List.set_cons_succ]
      refine AnyL.take (i := 5) (v := ?vy5) rfl (by kernel_rfl) (by kernel_rfl) (by kernel_rfl) (by kernel_rfl) (fun _ _ _ h => h) (by assumption) (Or.inl ⟨by rfl, ?y5⟩) ?ry5
      case y5 => (intro w hSw; (try dsimp only at hSw); go_simp; try with_reducible rfl)
      try simp only [Act.put, List.setIfInBounds_toArray, List.set_cons_zero, List.set_cons_succ]
      refine AnyL.take (i := 6) (v := ?vy6) rfl (by kernel_rfl) (by kernel_rfl) (by kernel_rfl) (by kernel_rfl) (fun _ _ _ h => h) (by assumption) (Or.inl ⟨by rfl, ?y6⟩) ?ry6
      case y6 => (intro w hSw; (try dsimp only at hSw); go_simp; try with_reducible rfl)
      try simp only [Act.put, List.setIfInBounds_toArray, List.set_cons_zero, List.set_cons_succ]
      refine AnyL.take (i := 7) (v := ?vy7) rfl (by kernel_rfl) (by kernel_rfl) (by kernel_rfl) (by kernel_rfl) (fun _ _ _ h => h) (by assumption) (Or.inl ⟨by rfl, ?y7⟩) ?ry7
      case y7 => (intro w hSw; (try dsimp only at hSw); go_simp; try with_reducible rfl)
      try simp only [Act.put, List.setIfInBounds_toArray, List.set_cons_zero, List.set_cons_succ]
      refine AnyL.take (i := 8) (v := ?vy8) rfl (by kernel_rfl) (by kernel_rfl) (by kernel_rfl) (by kernel_rfl) (fun _ _ _ h => h) (by assumption) (Or.inl ⟨by rfl, ?y8⟩) ?ry8
      case y8 => (intro w hSw; (try dsimp only at hSw); go_simp; try with_reducible rfl)
      try simp only [Act.put, List.setIfInBounds_toArray, List.set_cons_zero, List.set_cons_succ]
      refine AnyL.take (i := 9) (v := ?vy9) rfl (by kernel_rfl) (by kernel_rfl) (by kernel_rfl) (by kernel_rfl) (fun _ _ _ h => h) (by assumption) (Or.inl ⟨by rfl, ?y9⟩) ?ry9
      case y9 => (intro w hSw; (try dsimp only at hSw); go_simp; try with_reducible rfl)
      try simp only [Act.put, List.setIfInBounds_toArray, List.set_cons_zero, List.set_cons_succ]
      refine AnyL.take (i := 10) (v := ?vy10) rfl (by kernel_rfl) (by kernel_rfl) (by kernel_rfl) (by kernel_rfl) (fun _ _ _ h => h) (by assumption) (Or.inl ⟨by rfl, ?y10⟩) ?ry10
      case y10 => (intro w hSw; (try dsimp only at hSw); go_simp; try with_reducible rfl)
      try simp only [Act.put, List.setIfInBounds_toArray, List.set_cons_zero, List.set_cons_succ]
      refine AnyL.take (i := 11) (v := ?vy11) rfl (by kernel_rfl) (by kernel_rfl) (by kernel_rfl) (by kernel_rfl) (fun _ _ _ h => h) (by assumption) (Or.inl ⟨by rfl, ?y11⟩) ?ry11
      case y11 => (intro w hSw; (try dsimp only at hSw); go_simp; try with_reducible rfl)
      try simp only [Act.put, List.setIfInBounds_toArray, List.set_cons_zero, List.set_cons_succ]
      refine AnyL.take (i := 12) (v := ?vy12) rfl (by kernel_rfl) (by kernel_rfl) (by kernel_rfl) (by kernel_rfl) (fun _ _ _ h => h) (by assumption) (Or.inl ⟨by rfl, ?y12⟩) ?ry12
      case y12 => (intro w hSw; (try dsimp only at hSw); go_simp; try with_reducible rfl)
      try simp only [Act.put, List.setIfInBounds_toArray, List.set_cons_zero, List.set_cons_succ]
      refine AnyL.take (i := 13) (v := ?vy13) rfl (by kernel_rfl) (by kernel_rfl) (by kernel_rfl) (by kernel_rfl) (fun _ _ _ h => h) (by assumption) (Or.inl ⟨by rfl, ?y13⟩) ?ry13
      case y13 => (intro w hSw; (try dsimp only at hSw); go_simp; try with_reducible rfl)
      try simp only [Act.put, List.setIfInBounds_toArray, List.set_cons_zero, List.set_cons_succ]
      refine AnyL.take (i := 14) (v := ?vy14) rfl (by kernel_rfl) (by kernel_rfl) (by kernel_rfl) (by kernel_rfl) (fun _ _ _ h => h) (by assumption) (Or.inl ⟨by rfl, ?y14⟩) ?ry14
      case y14 => (intro w hSw; (try dsimp only at hSw); go_simp; try with_reducible rfl)
      try simp only [Act.put, List.setIfInBounds_toArray, List.set_cons_zero, List.set_cons_succ]
      refine AnyL.take (i := 15) (v := ?vy15) rfl (by kernel_rfl) (by kernel_rfl) (by kernel_rfl) (by kernel_rfl) (fun _ _ _ h => h) (by assumption) (Or.inl ⟨by rfl, ?y15⟩) ?ry15
      case y15 => (intro w hSw; (try dsimp only at hSw); go_simp; try with_reducible rfl)
      try simp only [Act.put, List.setIfInBounds_toArray, List.set_cons_zero, List.set_cons_succ]
      refine AnyL.take (i := 16) (v := ?vy16) rfl (by kernel_rfl) (by kernel_rfl) (by kernel_rfl) (by kernel_rfl) (fun _ _ _ h => h) (by assumption) (Or.inl ⟨by rfl, ?y16⟩) ?ry16
      case y16 => (intro w hSw; (try dsimp only at hSw); go_simp; try with_reducible rfl)
      try simp only [Act.put, List.setIfInBounds_toArray, List.set_cons_zero, List.set_cons_succ]
      refine AnyL.take (i := 17) (v := ?vy17) rfl (by kernel_rfl) (by kernel_rfl) (by kernel_rfl) (by kernel_rfl) (fun _ _ _ h => h) (by assumption) (Or.inl ⟨by rfl, ?y17⟩) ?ry17
      case y17 => (intro w hSw; (try dsimp only at hSw); go_simp; try with_reducible rfl)
      try simp only [Act.put, List.setIfInBounds_toArray, List.set_cons_zero, List.set_cons_succ]
      refine AnyL.take (i := 18) (v := ?vy18) rfl (by kernel_rfl) (by kernel_rfl) (by kernel_rfl) (by kernel_rfl) (fun _ _ _ h => h) (by assumption) (Or.inl ⟨by rfl, ?y18⟩) ?ry18
      case y18 => (intro w hSw; (try dsimp only at hSw); go_simp; try with_reducible rfl)
      try simp only [Act.put, List.setIfInBounds_toArray, List.set_cons_zero, List.set_cons_succ]
      refine AnyL.take (i := 19) (v := ?vy19) rfl (by kernel_rfl) (by kernel_rfl) (by kernel_rfl) (by kernel_rfl) (fun _ _ _ h => h) (by assumption) (Or.inl ⟨by rfl, ?y19⟩) ?ry19
      case y19 => (intro w hSw; (try dsimp only at hSw); go_simp; try with_reducible rfl)
      try simp only [Act.put, List.setIfInBounds_toArray, List.set_cons_zero, List.set_cons_succ]
      refine AnyL.take (i := 20) (v := ?vy20) rfl (by kernel_rfl) (by kernel_rfl) (by kernel_rfl) (by kernel_rfl) (fun _ _ _ h => h) (by assumption) (Or.inl ⟨by rfl, ?y20⟩) ?ry20
      case y20 => (intro w hSw; (try dsimp only at hSw); go_simp; try with_reducible rfl)
      try simp only [Act.put, List.setIfInBounds_toArray, List.set_cons_zero, List.set_cons_succ]
      refine AnyL.take (i := 21) (v := ?vy21) rfl (by kernel_rfl) (by kernel_rfl) (by kernel_rfl) (by kernel_rfl) (fun _ _ _ h => h) (by assumption) (Or.inl ⟨by rfl, ?y21⟩) ?ry21
      case y21 => (intro w hSw; (try dsimp only at hSw); go_simp; try with_reducible rfl)
      try simp only [Act.put, List.setIfInBounds_toArray, List.set_cons_zero, List.set_cons_succ]
      refine AnyL.take (i := 22) (v := ?vy22) rfl (by kernel_rfl) (by kernel_rfl) (by kernel_rfl) (by kernel_rfl) (fun _ _ _ h => h) (by assumption) (Or.inl ⟨by rfl, ?y22⟩) ?ry22
      case y22 => (intro w hSw; (try dsimp only at hSw); go_simp; try with_reducible rfl)
      try simp only [Act.put, List.setIfInBounds_toArray, List.set_cons_zero, List.set_cons_succ]
      refine AnyL.take (i := 23) (v := ?vy23) rfl (by kernel_rfl) (by kernel_rfl) (by kernel_rfl) (by kernel_rfl) (fun _ _ _ h => h) (by assumption) (Or.inl ⟨by rfl, ?y23⟩) ?ry23
      case y23 => (intro w hSw; (try dsimp only at hSw); go_simp; try with_reducible rfl)
      try simp only [Act.put, List.setIfInBounds_toArray, List.set_cons_zero, List.set_cons_succ]
      refine AnyL.take (i := 24) (v := ?vy24) rfl (by kernel_rfl) (by kernel_rfl) (by kernel_rfl) (by kernel_rfl) (fun _ _ _ h => h) (by assumption) (Or.inl ⟨by rfl, ?y24⟩) ?ry24
      case y24 => (intro w hSw; (try dsimp only at hSw); go_simp; try with_reducible rfl)
      try simp only [Act.put, List.setIfInBounds_toArray, List.set_cons_zero, List.set_cons_succ]
      refine AnyL.take (i := 25) (v := ?vy25) rfl (by kernel_rfl) (by kernel_rfl) (by kernel_rfl) (by kernel_rfl) (fun _ _ _ h => h) (by assumption) (Or.inl ⟨by rfl, ?y25⟩) ?ry25
      case y25 => (intro w hSw; (try dsimp only at hSw); go_simp; try with_reducible rfl)
      try simp only [Act.put, List.setIfInBounds_toArray, List.set_cons_zero, List.set_cons_succ]
      refine AnyL.done (by kernel_rfl) ?_ _
      clear hHeld
      have HD := Lib.hid (below_drew1 HBW.out)
      go_wp2_with fail
      go_roundg (gk - 1)
      case measure => have := HIG.out; omega
      case rel => exact ⟨i + 1, by rw [Int.natCast_succ], by have := HIG.out; omega, HD.out⟩
    · have hin2 : i = n := by omega
      subst hin2
      have d1 : decide ((i : Int) < (i : Int)) = false := by simp
      clear hig
      go_wp2_with fail
      go_ret
      exact ⟨rfl, HBW.out⟩
set_option maxHeartbeats 8000000 in
set_option maxRecDepth 1000000 in
theorem works_calls (w : World) :
    Calls Try.prog 12 #[] w fun e w' => e = .returned (.bool true) ∧ Below w.heap.size w w' := by
  have C1 := Lib.hid (New_calls (N := fun _ => False) w)
  go_enter Try.func12, Try.ntmps12
  go_wp2_with fail
  refine (C1.out).mono ?_
  rintro e w1 ⟨rfl, hd, hb⟩
  have hconv := Lib.run_convert_bytes_const (P := Try.prog) w1 29 5 #[.int .u8 97, .int .u8 98] 2 2 Try.underlying29 Try.underlying5
  obtain ⟨wx, hwx⟩ : ∃ wx, w1.alloc (.cells #[.int .u8 97, .int .u8 98] 5 ((#[.int .u8 97, .int .u8 98] : Array Value).size, (#[.int .u8 97, .int .u8 98] : Array Value).size + 1)) = wx := ⟨_, rfl⟩
  rw [hwx] at hconv
  have hbx : Below w1.heap.size w1 wx := by rw [← hwx]; exact (Below.refl _ _).alloc (Nat.le_refl _) _
  have hd2 := hd.below hbx
  have hB : wx.heap[w1.heap.size]? = some (.cells (nums .u8 [97, 98]).toArray 5 (2, 3)) := by rw [← hwx]; exact heap_alloc_new w1 _
  have hR : BR wx (some ⟨w1.heap.size, 0, none⟩) 2 [97, 98] := BR_row hB
  have c2 := Write_calls (N := fun _ => False) w.heap.size 0 2 _ 2 [97, 98] [] none 0 _ hd2 trivial (fun k h => h.elim) (fun x hx => by cases hx) (by decide) hR.ba (by decide) (by decide)
  have hw1 : w.heap.size < w1.heap.size := hd.cells.2.2.2
  have HB := Lib.hid (hb.trans (hbx.mono hb.size))
  have C2 := Lib.hid c2
  clear c2 hR hB hd2 hbx hd hb C1 hwx
  go_wp2_with fail
  refine (C2.out).mono ?_
  rintro e w2 ⟨rfl, L, cc, hd0, hb, _⟩
  have hd : DataAt w2 (fun _ => False) w.heap.size 4 [((2 : Nat), ([97, 98] : List Int))] L cc := hd0
  have hb2 := hb.below HB.out (Nat.le_refl _) (Nat.le_refl _) (fun L e => by cases e)
  clear hd0
  have hok : Ok 0 [((2 : Nat), ([97, 98] : List Int))] := ⟨by decide, by decide, trivial⟩
  have c3 := Read_calls w.heap.size 4 0 4 9 _ _ _ w2 hd hok (by decide) (fun x hx => by rw [List.mem_singleton.1 hx]; decide) (by decide) (by decide) (by decide) (by decide) (by decide)
  have HB2 := Lib.hid hb2
  have HD2 := Lib.hid hd
  have C3 := Lib.hid c3
  clear c3 hb2 hd hb C2 HB
  go_wp2_with fail
  refine (C3.out).mono ?_
  rintro e w3 ⟨O, rfl, hO, hrow, hb⟩
  rw [show bytesAt [((2 : Nat), ([97, 98] : List Int))] 0 4 = [0, 0, 97, 98] from rfl] at hrow
  have hd3 := HD2.out.below hb
  have HB3 := Lib.hid (HB2.out.trans (hb.mono HB2.out.size))
  have C4 := Lib.hid (Read_end w.heap.size 4 4 1 _ _ _ w3 hd3 (by decide) (by decide))
  have HROW := Lib.hid hrow
  have HD3 := Lib.hid hd3
  clear hb hrow hd3 HD2 HB2 C3
  go_wp2_with fail
  refine (C4.out).mono ?_
  rintro e w4 ⟨rfl, rfl⟩
  have hby : Below w4.heap.size w4 (w4.alloc (.cells (nums .u8 [0, 0, 97, 98]).toArray 5)) := (Below.refl _ _).alloc (Nat.le_refl _) _
  have r1 := row_C (bs := [0, 0, 97, 98]) (kept_below hby _ _ HROW.out) (by decide)
  have r2 := row_C (bs := [0, 0, 97, 98]) (heap_alloc_new w4 (.cells (nums .u8 [0, 0, 97, 98]).toArray 5)) (by decide)
  have hd5 := HD3.out.below hby
  have C5 := Lib.hid (refectoryref00_Same.calls 10 _ 4 [0, 0, 97, 98] _ 4 [0, 0, 97, 98] true _ r1 (by decide) r2 (by decide) same_four)
  have HB5 := Lib.hid (HB3.out.trans (hby.mono HB3.out.size))
  have HD5 := Lib.hid hd5
  clear hby r1 r2 hd5 HD3 HB3 HROW C4
  go_wp2_with fail
  refine (C5.out).mono ?_
  rintro e w5 ⟨rfl, hdr⟩
  have hb5 := hdr.below
  have C6 := Lib.hid (Size_calls w.heap.size 4 _ _ _ w5 (HD5.out.below hb5))
  have HB6 := Lib.hid (HB5.out.trans (hb5.mono HB5.out.size))
  clear hb5 hdr C5 HD5 HB5
  go_wp2_with fail
  refine (C6.out).mono ?_
  rintro e w6 ⟨rfl, rfl⟩
  go_wp2
  go_ret
  exact ⟨rfl, HB6.out⟩
end Go.Proofs.Ytjochldpacgcgaa.U
