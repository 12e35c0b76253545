/- The law ExtentApart: pieces rise, have a byte each, do not meet or touch, stand within the size, and have what is read there. -/
import Derived.Test.YtjochldpacgcgaaEplayed
set_option linter.unusedVariables false
set_option linter.unusedSimpArgs false
namespace Go.Proofs.Ytjochldpacgcgaa.U
open Go.RowKit Go.Proofs Go.Lib Go.Proofs.YtjochldpacgcgaaW.PrintWords

theorem bytesAt_get (xs : List Ext) (p n j : Nat) (h : j < n) : (bytesAt xs p n)[j]? = some ((look xs (p + j)).getD 0) := by
  unfold bytesAt
  rw [List.getElem?_map, List.getElem?_range h, Option.map_some]
/-- What is read at a piece. -/
theorem bytesAt_piece : ∀ (xs : List Ext) (k : Nat), Ok k xs → ∀ x ∈ xs, bytesAt xs x.1 x.2.length = x.2 := by
  intro xs k hok x hx
  have key : ∀ (xs : List Ext) (k : Nat), Ok k xs → x ∈ xs → ∀ i, x.1 ≤ i → i < en x → look xs i = x.2[i - x.1]? := by
    intro xs
    induction xs with
    | nil => intro k _ h; cases h
    | cons y t ih =>
      intro k h hx i h1 h2
      have ey : en y = y.1 + y.2.length := rfl
      have ex : en x = x.1 + x.2.length := rfl
      rcases List.mem_cons.1 hx with rfl | hx
      · exact look_in h1 h2
      · have hm := h.2.2.mem x hx
        rw [look_out (by omega)]
        exact ih _ h.2.2 hx i h1 h2
  apply List.ext_getElem?
  intro j
  by_cases hj : j < x.2.length
  · have e : en x = x.1 + x.2.length := rfl
    rw [bytesAt_get _ _ _ _ hj, key xs k hok hx (x.1 + j) (by omega) (by omega), Nat.add_sub_cancel_left, List.getElem?_eq_getElem hj]
    rfl
  · rw [List.getElem?_eq_none (by rw [bytesAt_length]; omega), List.getElem?_eq_none (by omega)]
/-- They rise. -/
theorem ok_rise : ∀ (xs : List Ext) (k : Nat), Ok k xs → ∀ i x y, xs[i]? = some x → xs[i + 1]? = some y → en x < y.1 := by
  intro xs
  induction xs with
  | nil => intro k _ i x y h; simp at h
  | cons z t ih =>
    intro k h i x y h1 h2
    cases i with
    | zero =>
      rw [List.getElem?_cons_zero] at h1
      injection h1 with h1
      subst h1
      rw [List.getElem?_cons_succ] at h2
      have := (h.2.2.mem y (List.mem_of_getElem? h2)).1
      omega
    | succ i =>
      rw [List.getElem?_cons_succ] at h1 h2
      exact ih _ h.2.2 i x y h1 h2
/-- The end of the piece ahead. -/
def endAt (xs : List Ext) (i : Nat) (e : Int) : Prop := (i = 0 ∧ e = -1) ∨ ∃ j x, i = j + 1 ∧ xs[j]? = some x ∧ e = (en x : Int)
set_option maxHeartbeats 16000000 in
set_option maxRecDepth 1000000 in
theorem ExtentApart_walk (A : Option Addr) (c : Nat) (l : List ActV) (w : World) (h : AR w A l) (hl : l.length ≤ 140737488351232 ∧ ∀ a ∈ l, a.bs.length ≤ 140737488351232) :
    Calls Try.prog 6 #[.slice A l.length c] w fun e w' => e = .returned (.bool true) ∧ Below w.heap.size w w' := by
  have C1 := Lib.hid (played_calls A c l w h (by omega) (fun a ha => by have := hl.2 a ha; omega))
  clear h hl
  go_enter Try.func6, Try.ntmps6
  go_wp2_with fail
  refine (C1.out).mono ?_
  rintro e w1 ⟨D, R, rfl, ⟨size, xs, lA, cl, B, Z, vB, vZ, ht⟩, hb1⟩
  have HO := Lib.hid ht.one
  have HB := Lib.hid hb1
  have C2 := Lib.hid (Extents_calls D size xs lA cl w1 ht.d ht.rel.ok ht.rel.top ht.small)
  clear ht hb1 C1
  go_wp2_with fail
  refine (C2.out).mono ?_
  rintro e w2 ⟨v2, rfl, hx2, hb2⟩
  obtain ⟨A2, c2, rfl⟩ := hx2.length
  generalize hn : xs.length = n at *
  have HN := Lib.hid hn
  have HX := Lib.hid hx2
  have HO2 := Lib.hid (HO.out.below hb2)
  have HB2 := Lib.hid (HB.out.trans (hb2.mono HB.out.size))
  have hlen := ok_len' HO.out.ok HO.out.top
  rw [hn] at hlen
  have hsm := HO.out.small
  clear hx2 hb2 hn C2
  go_wp2_with fail
  go_loopg [7, 8] n (fun g v7 v8 wr => ∃ (i : Nat) (e : Int), v8 = .int .i64 (i : Int) ∧ v7 = .int .i64 e ∧ i + g = n ∧ endAt xs i e ∧ Below w2.heap.size w2 wr)
  case atStart => exact ⟨0, -1, rfl, rfl, Nat.zero_add _, .inl ⟨rfl, rfl⟩, Below.refl _ _⟩
  case round =>
    obtain ⟨i, ev, rfl, rfl, hig, he, hbw⟩ := hrel
    have HIG := Lib.hid hig
    have HE := Lib.hid he
    have HBW := Lib.hid hbw
    clear he hbw
    by_cases hin : i < n
    · have d1 : decide ((i : Int) < (n : Int)) = true := by simp; omega
      have i1 : (i : Int) < (n : Int) := by omega
      obtain ⟨x, hx⟩ : ∃ x, xs[i]? = some x := ⟨_, List.getElem?_eq_getElem (by rw [HN.out]; exact hin)⟩
      obtain ⟨L, k, Ax, cx, e1, _, _, hLw, q1, q2, hbr, _⟩ := (HX.out.below HBW.out).at_ hx
      injection e1 with e1 e2 e3
      clear e2 e3
      subst e1
      have hmx := List.mem_of_getElem? hx
      have hxo := HO.out.ok.mem x hmx
      have hxt := HO.out.top x hmx
      have ex : en x = x.1 + x.2.length := rfl
      have hev : ev < (x.1 : Int) := by
        rcases HE.out with ⟨_, rfl⟩ | ⟨j, y, rfl, hy, rfl⟩
        · omega
        · have := ok_rise xs 0 HO.out.ok j y x hy hx
          omega
      have hpc := bytesAt_piece xs 0 HO.out.ok x hmx
      have hoW := HO2.out.below HBW.out
      have hbd : Below wr.heap.size wr wr.drew := below_drew1 (Below.refl _ _)
      have CR := Lib.hid (TR (hoW.below hbd) (x.1 : Int) (x.2.length : Int) (by omega))
      have hKS : ∀ w', Below wr.heap.size wr w' → w'.cell? ⟨L, i * 2, none⟩ = some (.int .i64 (x.1 : Int)) ∧ w'.cell? ⟨L, i * 2 + 1, none⟩ = some (.slice Ax x.2.length cx) := fun w' h =>
        ⟨(h.cell (p := ⟨L, i * 2, none⟩) hLw).trans q1, (h.cell (p := ⟨L, i * 2 + 1, none⟩) hLw).trans q2⟩
      have KS := Lib.hid hKS
      have hS0 := hKS _ hbd
      have HPC := Lib.hid hpc
      have HBR := Lib.hid hbr.ba
      have HBD := Lib.hid hbd
      have HXX := Lib.hid hx
      clear hKS hbr hx hpc hoW hbd hig ex
      go_wp2_with fail
      refine AnyL.start (fun w' => w'.cell? ⟨L, i * 2, none⟩ = some (.int .i64 (x.1 : Int)) ∧ w'.cell? ⟨L, i * 2 + 1, none⟩ = some (.slice Ax x.2.length cx)) 99 (by kernel_rfl) hS0 (fun hHeld => ?_)
      refine AnyL.take (i := 0) (v := ?vy0) rfl (by kernel_rfl) (by kernel_rfl) (by kernel_rfl) (by kernel_rfl) (fun _ _ _ h => h) (by assumption) (Or.inl ⟨by rfl, ?y0⟩) ?ry0
      case y0 => (intro w hSw; (try dsimp only at hSw); go_simp; try with_reducible rfl)
      try simp only [Act.put, List.setIfInBounds_toArray, List.set_cons_zero, List.set_cons_succ]
      refine AnyL.take (i := 1) (v := ?vy1) rfl (by kernel_rfl) (by kernel_rfl) (by kernel_rfl) (by kernel_rfl) (fun _ _ _ h => h) (by assumption) (Or.inl ⟨by rfl, ?y1⟩) ?ry1
      case y1 => (intro w hSw; (try dsimp only at hSw); go_simp; try with_reducible rfl)
      try simp only [Act.put, List.setIfInBounds_toArray, List.set_cons_zero, List.set_cons_succ]
      refine AnyL.take (i := 2) (v := ?vy2) rfl (by kernel_rfl) (by kernel_rfl) (by kernel_rfl) (by kernel_rfl) (fun _ _ _ h => h) (by assumption) (Or.inl ⟨by rfl, ?y2⟩) ?ry2
      case y2 => (intro w hSw; (try dsimp only at hSw); go_simp; try with_reducible rfl)
      try simp only [Act.put, List.setIfInBounds_toArray, List.set_cons_zero, List.set_cons_succ]
      refine AnyL.take (i := 3) (v := ?vy3) rfl (by kernel_rfl) (by kernel_rfl) (by kernel_rfl) (by kernel_rfl) (fun _ _ _ h => h) (by assumption) (Or.inl ⟨by rfl, ?y3⟩) ?ry3
      case y3 => (intro w hSw; (try dsimp only at hSw); go_simp; try with_reducible rfl)
      try simp only [Act.put, List.setIfInBounds_toArray, List.set_cons_zero, List.set_cons_succ]
      refine AnyL.take (i := 4) (v := ?vy4) rfl (by kernel_rfl) (by kernel_rfl) (by kernel_rfl) (by kernel_rfl) (fun _ _ _ h => h) (by assumption) (Or.inl ⟨by rfl, ?y4⟩) ?ry4
      case y4 => (intro w hSw; (try dsimp only at hSw); go_simp; try with_reducible rfl)
      try simp only [Act.put, List.setIfInBounds_toArray, List.set_cons_zero, List.set_cons_succ]
      refine AnyL.take (i := 5) (v := ?vy5) rfl (by kernel_rfl) (by kernel_rfl) (by kernel_rfl) (by kernel_rfl) (fun _ _ _ h => h) (by assumption) (Or.inl ⟨by rfl, ?y5⟩) ?ry5
      case y5 => (intro w hSw; (try dsimp only at hSw); go_simp; try with_reducible rfl)
      try simp only [Act.put, List.setIfInBounds_toArray, List.set_cons_zero, List.set_cons_succ]
      refine AnyL.take (i := 6) (v := ?vy6) rfl (by kernel_rfl) (by kernel_rfl) (by kernel_rfl) (by kernel_rfl) (fun _ _ _ h => h) (by assumption) (Or.inl ⟨by rfl, ?y6⟩) ?ry6
      case y6 => (intro w hSw; (try dsimp only at hSw); go_simp; try with_reducible rfl)
      try simp only [Act.put, List.setIfInBounds_toArray, List.set_cons_zero, List.set_cons_succ]
      refine AnyL.take (i := 7) (v := ?vy7) rfl (by kernel_rfl) (by kernel_rfl) (by kernel_rfl) (by kernel_rfl) (fun _ _ _ h => h) (by assumption) (Or.inl ⟨by rfl, ?y7⟩) ?ry7
      case y7 => (intro w hSw; (try dsimp only at hSw); go_simp; try with_reducible rfl)
      try simp only [Act.put, List.setIfInBounds_toArray, List.set_cons_zero, List.set_cons_succ]
      refine AnyL.take (i := 8) (v := ?vy8) rfl (by kernel_rfl) (by kernel_rfl) (by kernel_rfl) (by kernel_rfl) (fun _ _ _ h => h) (by assumption) (Or.inl ⟨by rfl, ?y8⟩) ?ry8
      case y8 => (intro w hSw; (try dsimp only at hSw); go_simp; try with_reducible rfl)
      try simp only [Act.put, List.setIfInBounds_toArray, List.set_cons_zero, List.set_cons_succ]
      refine AnyL.take (i := 9) (v := ?vy9) rfl (by kernel_rfl) (by kernel_rfl) (by kernel_rfl) (by kernel_rfl) (fun _ _ _ h => h) (by assumption) (Or.inl ⟨by rfl, ?y9⟩) ?ry9
      case y9 => (intro w hSw; (try dsimp only at hSw); go_simp; try with_reducible rfl)
      try simp only [Act.put, List.setIfInBounds_toArray, List.set_cons_zero, List.set_cons_succ]
      refine AnyL.take (i := 10) (v := ?vy10) rfl (by kernel_rfl) (by kernel_rfl) (by kernel_rfl) (by kernel_rfl) (fun _ _ _ h => h) (by assumption) (Or.inl ⟨by rfl, ?y10⟩) ?ry10
      case y10 => (intro w hSw; (try dsimp only at hSw); go_simp; try with_reducible rfl)
      try simp only [Act.put, List.setIfInBounds_toArray, List.set_cons_zero, List.set_cons_succ]
      refine AnyL.take (i := 11) (v := ?vy11) rfl (by kernel_rfl) (by kernel_rfl) (by kernel_rfl) (by kernel_rfl) (fun _ _ _ h => h) (by assumption) (Or.inl ⟨by rfl, ?y11⟩) ?ry11
      case y11 => (intro w hSw; (try dsimp only at hSw); go_simp; try with_reducible rfl)
      try simp only [Act.put, List.setIfInBounds_toArray, List.set_cons_zero, List.set_cons_succ]
      refine AnyL.one (i := 12) (by kernel_rfl) rfl (fun K hK => ?_)
      go_simp
      refine (CR.out).mono ?_
      rintro e w5 ⟨code, A5, c5, b5, rfl, hA5, _, hb5, ho5⟩
      have hb6 := HBD.out.trans (hb5.mono HBD.out.size)
      refine hK.out _ _ (.inr (KS.out _ hb6)) ?_
      clear hHeld hK K
      have hHeld := KS.out _ hb6
      try simp only [Act.put, List.setIfInBounds_toArray, List.set_cons_zero, List.set_cons_succ]
      refine AnyL.take (i := 13) (v := ?vz13) rfl (by kernel_rfl) (by kernel_rfl) (by kernel_rfl) (by kernel_rfl) (fun _ _ _ h => h) (by assumption) (Or.inl ⟨by rfl, ?z13⟩) ?rz13
      case z13 => (intro w hSw; (try dsimp only at hSw); go_simp; try with_reducible rfl)
      try simp only [Act.put, List.setIfInBounds_toArray, List.set_cons_zero, List.set_cons_succ]
      refine AnyL.take (i := 14) (v := ?vz14) rfl (by kernel_rfl) (by kernel_rfl) (by kernel_rfl) (by kernel_rfl) (fun _ _ _ h => h) (by assumption) (Or.inl ⟨by rfl, ?z14⟩) ?rz14
      case z14 => (intro w hSw; (try dsimp only at hSw); go_simp; try with_reducible rfl)
      try simp only [Act.put, List.setIfInBounds_toArray, List.set_cons_zero, List.set_cons_succ]
      refine AnyL.take (i := 15) (v := ?vz15) rfl (by kernel_rfl) (by kernel_rfl) (by kernel_rfl) (by kernel_rfl) (fun _ _ _ h => h) (by assumption) (Or.inl ⟨by rfl, ?z15⟩) ?rz15
      case z15 => (intro w hSw; (try dsimp only at hSw); go_simp; try with_reducible rfl)
      try simp only [Act.put, List.setIfInBounds_toArray, List.set_cons_zero, List.set_cons_succ]
      refine AnyL.take (i := 16) (v := ?vz16) rfl (by kernel_rfl) (by kernel_rfl) (by kernel_rfl) (by kernel_rfl) (fun _ _ _ h => h) (by assumption) (Or.inl ⟨by rfl, ?z16⟩) ?rz16
      case z16 => (intro w hSw; (try dsimp only at hSw); go_simp; try with_reducible rfl)
      try simp only [Act.put, List.setIfInBounds_toArray, List.set_cons_zero, List.set_cons_succ]
      refine AnyL.take (i := 17) (v := ?vz17) rfl (by kernel_rfl) (by kernel_rfl) (by kernel_rfl) (by kernel_rfl) (fun _ _ _ h => h) (by assumption) (Or.inl ⟨by rfl, ?z17⟩) ?rz17
      case z17 => (intro w hSw; (try dsimp only at hSw); go_simp; try with_reducible rfl)
      try simp only [Act.put, List.setIfInBounds_toArray, List.set_cons_zero, List.set_cons_succ]
      refine AnyL.done (by kernel_rfl) ?_ _
      obtain ⟨q3, q4⟩ := hHeld
      have hout : code = 0 ∧ b5 = x.2 := by
        rcases ho5 with ⟨h1, _⟩ | ⟨_, _, _, h1, m, hm, h2⟩
        · unfold RBad at h1
          have e : en x = x.1 + x.2.length := rfl
          omega
        · refine ⟨h1, ?_⟩
          have e : en x = x.1 + x.2.length := rfl
          obtain rfl : m = x.2.length := by omega
          rw [h2, Int.toNat_natCast]
          exact HPC.out
      obtain ⟨rfl, rfl⟩ := hout
      have CSm := Lib.hid (Same_eq A5 Ax c5 cx x.2 w5 hA5 (HBR.out.keep hb6) (by have e : en x = x.1 + x.2.length := rfl; omega))
      have HB6 := Lib.hid hb6
      have d2 : decide ((x.1 : Int) ≤ ev) = false := by simp; omega
      have d3 : ((x.2.length : Int) == 0) = false := beq_eq_false_iff_ne.mpr (by omega)
      have hx2 : (x.1 : Int) + (x.2.length : Int) ≤ 65536 := by have e : en x = x.1 + x.2.length := rfl; omega
      have w2e : IntKind.i64.wrap ((x.1 : Int) + (x.2.length : Int)) = (x.1 : Int) + (x.2.length : Int) := wrap_small _ (by omega) (by omega)
      clear hS0 hb6 hb5 ho5 hA5 CR
      go_wp2_with fail
      refine (CSm.out).mono ?_
      rintro e w7 ⟨rfl, hb7⟩
      have hb8 := HB6.out.trans (hb7.mono HB6.out.size)
      obtain ⟨q5, q6⟩ := KS.out _ hb8
      have HB8 := Lib.hid hb8
      have hS1 := KS.out _ (hb8.trans (below_drew1 (Below.refl _ _)))
      clear hb7 hb8 CSm q3 q4
      go_wp2_with fail
      refine AnyL.start (fun w' => w'.cell? ⟨L, i * 2, none⟩ = some (.int .i64 (x.1 : Int)) ∧ w'.cell? ⟨L, i * 2 + 1, none⟩ = some (.slice Ax x.2.length cx)) 99 (by kernel_rfl) hS1 (fun hHeld => ?_)
      refine AnyL.take (i := 0) (v := ?vu0) rfl (by kernel_rfl) (by kernel_rfl) (by kernel_rfl) (by kernel_rfl) (fun _ _ _ h => h) (by assumption) (Or.inl ⟨by rfl, ?u0⟩) ?ru0
      case u0 => (intro w hSw; (try dsimp only at hSw); go_simp; try with_reducible rfl)
      try simp only [Act.put, List.setIfInBounds_toArray, List.set_cons_zero, List.set_cons_succ]
      refine AnyL.take (i := 1) (v := ?vu1) rfl (by kernel_rfl) (by kernel_rfl) (by kernel_rfl) (by kernel_rfl) (fun _ _ _ h => h) (by assumption) (Or.inl ⟨by rfl, ?u1⟩) ?ru1
      case u1 => (intro w hSw; (try dsimp only at hSw); go_simp; try with_reducible rfl)
      try simp only [Act.put, List.setIfInBounds_toArray, List.set_cons_zero, List.set_cons_succ]
      refine AnyL.take (i := 2) (v := ?vu2) rfl (by kernel_rfl) (by kernel_rfl) (by kernel_rfl) (by kernel_rfl) (fun _ _ _ h => h) (by assumption) (Or.inl ⟨by rfl, ?u2⟩) ?ru2
      case u2 => (intro w hSw; (try dsimp only at hSw); go_simp; try with_reducible rfl)
      try simp only [Act.put, List.setIfInBounds_toArray, List.set_cons_zero, List.set_cons_succ]
      refine AnyL.take (i := 3) (v := ?vu3) rfl (by kernel_rfl) (by kernel_rfl) (by kernel_rfl) (by kernel_rfl) (fun _ _ _ h => h) (by assumption) (Or.inl ⟨by rfl, ?u3⟩) ?ru3
      case u3 => (intro w hSw; (try dsimp only at hSw); go_simp; try with_reducible rfl)
      try simp only [Act.put, List.setIfInBounds_toArray, List.set_cons_zero, List.set_cons_succ]
      refine AnyL.take (i := 4) (v := ?vu4) rfl (by kernel_rfl) (by kernel_rfl) (by kernel_rfl) (by kernel_rfl) (fun _ _ _ h => h) (by assumption) (Or.inl ⟨by rfl, ?u4⟩) ?ru4
      case u4 => (intro w hSw; (try dsimp only at hSw); go_simp; try with_reducible rfl)
      try simp only [Act.put, List.setIfInBounds_toArray, List.set_cons_zero, List.set_cons_succ]
      refine AnyL.take (i := 5) (v := ?vu5) rfl (by kernel_rfl) (by kernel_rfl) (by kernel_rfl) (by kernel_rfl) (fun _ _ _ h => h) (by assumption) (Or.inl ⟨by rfl, ?u5⟩) ?ru5
      case u5 => (intro w hSw; (try dsimp only at hSw); go_simp; try with_reducible rfl)
      try simp only [Act.put, List.setIfInBounds_toArray, List.set_cons_zero, List.set_cons_succ]
      refine AnyL.take (i := 6) (v := ?vu6) rfl (by kernel_rfl) (by kernel_rfl) (by kernel_rfl) (by kernel_rfl) (fun _ _ _ h => h) (by assumption) (Or.inl ⟨by rfl, ?u6⟩) ?ru6
      case u6 => (intro w hSw; (try dsimp only at hSw); go_simp; try with_reducible rfl)
      try simp only [Act.put, List.setIfInBounds_toArray, List.set_cons_zero, List.set_cons_succ]
      refine AnyL.take (i := 7) (v := ?vu7) rfl (by kernel_rfl) (by kernel_rfl) (by kernel_rfl) (by kernel_rfl) (fun _ _ _ h => h) (by assumption) (Or.inl ⟨by rfl, ?u7⟩) ?ru7
      case u7 => (intro w hSw; (try dsimp only at hSw); go_simp; try with_reducible rfl)
      try simp only [Act.put, List.setIfInBounds_toArray, List.set_cons_zero, List.set_cons_succ]
      refine AnyL.take (i := 8) (v := ?vu8) rfl (by kernel_rfl) (by kernel_rfl) (by kernel_rfl) (by kernel_rfl) (fun _ _ _ h => h) (by assumption) (Or.inl ⟨by rfl, ?u8⟩) ?ru8
      case u8 => (intro w hSw; (try dsimp only at hSw); go_simp; try with_reducible rfl)
      try simp only [Act.put, List.setIfInBounds_toArray, List.set_cons_zero, List.set_cons_succ]
      refine AnyL.take (i := 9) (v := ?vu9) rfl (by kernel_rfl) (by kernel_rfl) (by kernel_rfl) (by kernel_rfl) (fun _ _ _ h => h) (by assumption) (Or.inl ⟨by rfl, ?u9⟩) ?ru9
      case u9 => (intro w hSw; (try dsimp only at hSw); go_simp; try with_reducible rfl)
      try simp only [Act.put, List.setIfInBounds_toArray, List.set_cons_zero, List.set_cons_succ]
      refine AnyL.take (i := 10) (v := ?vu10) rfl (by kernel_rfl) (by kernel_rfl) (by kernel_rfl) (by kernel_rfl) (fun _ _ _ h => h) (by assumption) (Or.inl ⟨by rfl, ?u10⟩) ?ru10
      case u10 => (intro w hSw; (try dsimp only at hSw); go_simp; try with_reducible rfl)
      try simp only [Act.put, List.setIfInBounds_toArray, List.set_cons_zero, List.set_cons_succ]
      refine AnyL.take (i := 11) (v := ?vu11) rfl (by kernel_rfl) (by kernel_rfl) (by kernel_rfl) (by kernel_rfl) (fun _ _ _ h => h) (by assumption) (Or.inl ⟨by rfl, ?u11⟩) ?ru11
      case u11 => (intro w hSw; (try dsimp only at hSw); go_simp; try with_reducible rfl)
      try simp only [Act.put, List.setIfInBounds_toArray, List.set_cons_zero, List.set_cons_succ]
      refine AnyL.take (i := 12) (v := ?vu12) rfl (by kernel_rfl) (by kernel_rfl) (by kernel_rfl) (by kernel_rfl) (fun _ _ _ h => h) (by assumption) (Or.inl ⟨by rfl, ?u12⟩) ?ru12
      case u12 => (intro w hSw; (try dsimp only at hSw); go_simp; try with_reducible rfl)
      try simp only [Act.put, List.setIfInBounds_toArray, List.set_cons_zero, List.set_cons_succ]
      refine AnyL.done (by kernel_rfl) ?_ _
      have hfin := HBW.out.trans ((HB8.out.trans (below_drew1 (Below.refl _ _))).mono HBW.out.size)
      have HF := Lib.hid hfin
      clear hfin hHeld hS1
      go_wp2_with fail
      go_roundg (gk - 1)
      case measure => have := HIG.out; omega
      case rel => exact ⟨i + 1, (x.1 : Int) + (x.2.length : Int), by rw [Int.natCast_succ], rfl, by have := HIG.out; omega, .inr ⟨i, x, rfl, HXX.out, by have e : en x = x.1 + x.2.length := rfl; rw [e, Int.natCast_add]⟩, HF.out⟩
    · have hin2 : i = n := by omega
      subst hin2
      have d1 : decide ((i : Int) < (i : Int)) = false := by simp
      have hev : ev ≤ (size : Int) := by
        rcases HE.out with ⟨_, rfl⟩ | ⟨j, y, _, hy, rfl⟩
        · omega
        · have := HO.out.top y (List.mem_of_getElem? hy)
          omega
      have d2 : decide (ev ≤ (size : Int)) = true := by simpa using hev
      have CS := Lib.hid (Size_calls D size xs lA cl wr (HO2.out.below HBW.out).d)
      have HF := Lib.hid (HB2.out.trans (HBW.out.mono HB2.out.size))
      clear hig
      go_wp2_with fail
      refine (CS.out).mono ?_
      rintro e w3 ⟨rfl, rfl⟩
      go_wp2_with fail
      refine (works_calls _).mono ?_
      rintro e w4 ⟨rfl, hb4⟩
      go_wp2
      go_ret
      exact ⟨rfl, HF.out.trans (hb4.mono HF.out.size)⟩
end Go.Proofs.Ytjochldpacgcgaa.U
