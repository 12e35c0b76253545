/- cache: Read. -/
import Derived.Test.YtbnkiefchbcfgaaK2
set_option linter.unusedVariables false
set_option linter.unusedSimpArgs false
namespace Go.Proofs.Ytbnkiefchbcfgaa.U
open Go.RowKit Go.Proofs Go.Lib Go.Proofs.YtbnkiefchbcfgaaW.PrintWords
variable {N : Nat → Prop} {w : World} {C lvl size : Nat} {xs os : List Ext} {lA oA : Option Addr} {c oc : Nat}

theorem drewN_b {B : Nat} (w : World) (n : Nat) : Below B w (w.drewN n) := ⟨rfl, rfl, rfl, Nat.le_refl _, fun _ _ => rfl⟩
theorem run_part (A : Option Addr) (n c l hi m : Nat) (hm : 0 < m) (hlm : hi = l + m) (h : hi ≤ n) (hn : n ≤ c) (W : World) :
    (Instr.slice 22 (.slice A n c) (some (.int .i64 (l : Int))) (some (.int .i64 (hi : Int))) (some (.int .i64 (hi : Int)))).run Try.prog W = .ok (.slice (A.map fun a => a.add l) m m) W := by
  obtain ⟨i0, hi0, hz0, hz1, hz2⟩ := info_parts infoU8
  have he : Try.prog.elem 22 = 5 := by kernel_rfl
  rw [run_slice_lhm W 22 A n c (by rw [he]; exact Try.underlying22) .i64 .i64 .i64 (l : Int) (hi : Int) (hi : Int) (by omega) (by omega) (by omega) (by omega), he]
  have h1 : ¬ hi = l := by omega
  have h2 : hi - l = m := by omega
  simp [sizeOf, typeInfo, hi0, hz1, sliced, h1, h2]
theorem BR.part {w : World} {A : Option Addr} {c : Nat} {bs : List Int} (h : BR w A c bs) (l m : Nat) (hlm : l + m ≤ bs.length) (hm : 0 < m) : BR w (A.map fun a => a.add l) m ((bs.drop l).take m) := by
  obtain ⟨h1, h2⟩ := h
  refine ⟨by rw [List.length_take]; omega, fun _ => ?_⟩
  obtain ⟨g, o, cs, fz, rfl, hh, hc⟩ := h2 (by omega)
  refine ⟨g, o + l, cs, fz, ?_, hh, fun j b hj => ?_⟩
  · show some ((⟨g, o, none⟩ : Addr).add l) = _
    rw [Addr.add_lit]
  · rw [List.getElem?_take] at hj
    split at hj
    · rw [List.getElem?_drop] at hj
      rw [Nat.add_assoc]
      exact hc (l + j) b hj
    · cases hj
set_option maxHeartbeats 2000000 in
set_option maxRecDepth 1000000 in
theorem Read_no (p n : Int) (h : CacheAt w N C lvl size xs os lA c oA oc) (hs : size ≤ 65536) (hbad : ¬ (0 < lvl ∧ 0 < n ∧ 0 ≤ p ∧ p ≤ size ∧ n ≤ size - p)) :
    Calls Try.prog 15 #[.pointer (some ⟨C, 0, none⟩), .int .i64 p, .int .i64 n] w fun e w' => e = .returned (.tuple #[.slice none 0 0, .bool false]) ∧ Below w.heap.size w w' := by
  have hB1 := (Below.refl w.heap.size w).alloc (Nat.le_refl _) (.cells #[.pointer (some ⟨C, 0, none⟩)] 24)
  obtain ⟨w1, hw1⟩ : ∃ w1, w.alloc (.cells #[.pointer (some ⟨C, 0, none⟩)] 24) = w1 := ⟨_, rfl⟩
  have hH0 := heap_alloc_new w (.cells #[.pointer (some ⟨C, 0, none⟩)] 24)
  rw [hw1] at hB1 hH0
  have hB2 := (Below.refl w1.heap.size w1).alloc (Nat.le_refl _) (.cells #[.int .i64 p] 3)
  have hH1 := heap_alloc_new w1 (.cells #[.int .i64 p] 3)
  obtain ⟨w2, hw2⟩ : ∃ w2, w1.alloc (.cells #[.int .i64 p] 3) = w2 := ⟨_, rfl⟩
  rw [hw2] at hB2 hH1
  have l0 := (Array.getElem?_eq_some_iff.1 hH0).1
  have k0 : w2.cell? ⟨w.heap.size, 0, none⟩ = some (.pointer (some ⟨C, 0, none⟩)) := by rw [Lib.cell_of_heap ((hB2.block _ l0).trans hH0)]; rfl
  have k1 : w2.cell? ⟨w1.heap.size, 0, none⟩ = some (.int .i64 p) := by rw [Lib.cell_of_heap hH1]; rfl
  have hBB := hB1.trans (hB2.mono hB1.size)
  have h2 := h.below hBB
  have C1 := Lib.hid (off_on C w2 h2.c0)
  have q1 := h2.c1
  have cW := within_calls C size p n w2 h2.c2 hs
  have HBB := Lib.hid hBB
  clear h h2 hB1 hB2 hH0 hH1 hBB l0
  by_cases a1 : lvl = 0
  · have d1 : ((lvl : Int) == 0) = true := by simp; omega
    clear cW
    go_enter Try.func15, Try.ntmps15
    go_wp2_with fail
    refine (C1.out).mono ?_
    rintro e w3 ⟨rfl, rfl⟩
    clear hw1 hw2
    go_wp2
    go_ret2
    exact ⟨rfl, HBB.out⟩
  · have d1 : ((lvl : Int) == 0) = false := by simp; omega
    by_cases a2 : n < 1
    · have d2 : decide (n < 1) = true := by simp; omega
      clear cW
      go_enter Try.func15, Try.ntmps15
      go_wp2_with fail
      refine (C1.out).mono ?_
      rintro e w3 ⟨rfl, rfl⟩
      clear hw1 hw2
      go_wp2
      go_ret2
      exact ⟨rfl, HBB.out⟩
    · have d2 : decide (n < 1) = false := by simp; omega
      rw [decide_eq_false (by omega)] at cW
      have CW := Lib.hid cW
      clear cW
      go_enter Try.func15, Try.ntmps15
      go_wp2_with fail
      refine (C1.out).mono ?_
      rintro e w3 ⟨rfl, rfl⟩
      clear hw1 hw2
      go_wp2_with fail
      refine (CW.out).mono ?_
      rintro e w4 ⟨rfl, rfl⟩
      go_wp2
      go_ret2
      exact ⟨rfl, HBB.out⟩
set_option maxHeartbeats 8000000 in
set_option maxRecDepth 1000000 in
theorem Read_not (p m : Nat) (h : CacheAt w N C lvl size xs os lA c oA oc) (hf : Fit size xs) (hs : size ≤ 65536) (hl : 0 < lvl) (hm : 0 < m) (hp : p + m ≤ size) (hk : knB xs p m = false) :
    Calls Try.prog 15 #[.pointer (some ⟨C, 0, none⟩), .int .i64 (p : Int), .int .i64 (m : Int)] w fun e w' => e = .returned (.tuple #[.slice none 0 0, .bool false]) ∧ Below w.heap.size w w' := by
  have hlen := ok_len' hf.ok hf.top
  have hB1 := (Below.refl w.heap.size w).alloc (Nat.le_refl _) (.cells #[.pointer (some ⟨C, 0, none⟩)] 24)
  have hH0 := heap_alloc_new w (.cells #[.pointer (some ⟨C, 0, none⟩)] 24)
  obtain ⟨w1, hw1⟩ : ∃ w1, w.alloc (.cells #[.pointer (some ⟨C, 0, none⟩)] 24) = w1 := ⟨_, rfl⟩
  rw [hw1] at hB1 hH0
  have hB2 := (Below.refl w1.heap.size w1).alloc (Nat.le_refl _) (.cells #[.int .i64 (p : Int)] 3)
  have hH1 := heap_alloc_new w1 (.cells #[.int .i64 (p : Int)] 3)
  obtain ⟨w2, hw2⟩ : ∃ w2, w1.alloc (.cells #[.int .i64 (p : Int)] 3) = w2 := ⟨_, rfl⟩
  rw [hw2] at hB2 hH1
  have l0 := (Array.getElem?_eq_some_iff.1 hH0).1
  have m1 := (Array.getElem?_eq_some_iff.1 hH1).1
  have m0 : w.heap.size < w2.heap.size := by have := hB2.size; omega
  have k0 : w2.cell? ⟨w.heap.size, 0, none⟩ = some (.pointer (some ⟨C, 0, none⟩)) := by rw [Lib.cell_of_heap ((hB2.block _ l0).trans hH0)]; rfl
  have k1 : w2.cell? ⟨w1.heap.size, 0, none⟩ = some (.int .i64 (p : Int)) := by rw [Lib.cell_of_heap hH1]; rfl
  have hBB := hB1.trans (hB2.mono hB1.size)
  have h2 := h.below hBB
  have C1 := Lib.hid (off_on C w2 h2.c0)
  have q1 := h2.c1
  have cW := within_calls C size (p : Int) (m : Int) w2 h2.c2 hs
  rw [decide_eq_true (by omega)] at cW
  have cS := readSearch_calls C p w.heap.size w1.heap.size xs lA c w2 h2.known h2.c3 h2.lt hf.ok (by omega) (fun x hm => by have := hf.top x hm; omega) (by omega) k0 k1 m0 m1
  have hspec := kn_spec p m hm xs 0 hf.ok
  have hfl := frN_le (p + 1) xs
  have hiff := frN_iff (p + 1) xs 0 hf.ok
  have hCl := h2.lt
  have q3 := h2.c3
  obtain ⟨n, hn⟩ : ∃ n, xs.length = n := ⟨_, rfl⟩
  obtain ⟨fr, hfr⟩ : ∃ fr, frN (p + 1) xs = fr := ⟨_, rfl⟩
  rw [hn] at cS hfl q3 hlen
  rw [hfr] at cS hfl hspec hiff
  have hKS : ∀ w', Below w2.heap.size w2 w' → w'.cell? ⟨w.heap.size, 0, none⟩ = some (.pointer (some ⟨C, 0, none⟩)) ∧ w'.cell? ⟨w1.heap.size, 0, none⟩ = some (.int .i64 (p : Int)) ∧ w'.cell? ⟨C, 3, none⟩ = some (.slice lA n c) := fun w' h =>
    ⟨(h.cell (p := ⟨w.heap.size, 0, none⟩) m0).trans k0, (h.cell (p := ⟨w1.heap.size, 0, none⟩) m1).trans k1, (h.cell (p := ⟨C, 3, none⟩) hCl).trans q3⟩
  have KS := Lib.hid hKS
  have CS := Lib.hid cS
  have CW := Lib.hid cW
  have HBB := Lib.hid hBB
  have HS := Lib.hid hspec
  have HIF := Lib.hid hiff
  have HK := Lib.hid hk
  have H2 := Lib.hid h2
  have HF := Lib.hid hf
  have HN := Lib.hid hn
  have d1 : ((lvl : Int) == 0) = false := by simp; omega
  have d2 : decide ((m : Int) < 1) = false := by simp; omega
  clear h h2 hB1 hB2 hH0 hH1 hBB l0 hKS cS cW hspec hiff hk hf hn hfr
  go_enter Try.func15, Try.ntmps15
  go_wp2_with fail
  refine (C1.out).mono ?_
  rintro e w3 ⟨rfl, rfl⟩
  clear hw1 hw2
  go_wp2_with fail
  refine (CW.out).mono ?_
  rintro e w4 ⟨rfl, rfl⟩
  go_wp2_with fail
  refine (CS.out).mono ?_
  rintro e w5 ⟨rfl, hb5⟩
  clear q1 q3
  have HB5 := Lib.hid hb5
  have HBW := Lib.hid (HBB.out.trans (hb5.mono HBB.out.size))
  obtain ⟨k0', k1', q3'⟩ := KS.out _ hb5
  clear k0 k1 hb5
  by_cases hlt : fr < n
  · have d3 : ((fr : Int) == (n : Int)) = false := by simp; omega
    obtain ⟨x, hx⟩ : ∃ x, xs[fr]? = some x := ⟨_, List.getElem?_eq_getElem (by have := HN.out; omega)⟩
    obtain ⟨L, A, c', rfl, hL, q4, q5, hbr⟩ := H2.out.known.piece hx
    have i0 : (fr : Int) < (n : Int) := by omega
    have hxe : p + 1 ≤ en x := (HIF.out fr x hx).2 (Nat.le_refl _)
    have hxt := HF.out.top x (List.mem_of_getElem? hx)
    have hen : en x = x.1 + x.2.length := rfl
    have q4' := (HB5.out.cell (p := ⟨L, fr * 2, none⟩) hL).trans q4
    have q5' := (HB5.out.cell (p := ⟨L, fr * 2 + 1, none⟩) hL).trans q5
    have hL5 : L < w5.heap.size := Nat.lt_of_lt_of_le hL HB5.out.size
    by_cases hpx : p < x.1
    · have d4 : decide ((p : Int) < (x.1 : Int)) = true := by simp; omega
      clear q4 q5 hx
      go_wp2_with fail
      go_quiet (fail)
      go_wp2
      go_ret2
      exact ⟨rfl, HBW.out.trans (drewN_b _ _)⟩
    · have d4 : decide ((p : Int) < (x.1 : Int)) = false := by simp; omega
      have hexm : en x < p + m := by
        rcases Nat.lt_or_ge (en x) (p + m) with h | h
        · exact h
        · have h1 := HS.out.2 ⟨x, hx, by omega, h⟩
          rw [HK.out] at h1
          cases h1
      have CE := Lib.hid (fun W => end_calls x.1 x.2.length c' A W (by omega))
      have hdec : decide ((x.1 : Int) + (x.2.length : Int) < (p : Int) + (m : Int)) = true := by simp; omega
      have hwr : IntKind.i64.wrap ((p : Int) + (m : Int)) = (p : Int) + (m : Int) := wrap_small _ (by omega) (by omega)
      have hC5 : C < w5.heap.size := Nat.lt_of_lt_of_le hCl HB5.out.size
      have hm0 : w.heap.size < w5.heap.size := Nat.lt_of_lt_of_le m0 HB5.out.size
      have hm1 : w1.heap.size < w5.heap.size := Nat.lt_of_lt_of_le m1 HB5.out.size
      clear q4 q5 hx hbr
      go_wp2_with fail
      go_region_held3 (fun w' => Below w5.heap.size w5 w' ∧ w'.cell? ⟨w.heap.size, 0, none⟩ = some (.pointer (some ⟨C, 0, none⟩)) ∧ w'.cell? ⟨w1.heap.size, 0, none⟩ = some (.int .i64 (p : Int)) ∧ w'.cell? ⟨C, 3, none⟩ = some (.slice (some ⟨L, 0, none⟩) n c) ∧ w'.cell? ⟨L, fr * 2, none⟩ = some (.int .i64 (x.1 : Int)) ∧ w'.cell? ⟨L, fr * 2 + 1, none⟩ = some (.slice A x.2.length c')) (first | exact ⟨below_drew1 (Below.refl _ _), k0', k1', q3', q4', q5'⟩ | exact ⟨(below_drew1 (Below.refl _ _)).trans hb, (hb.cell (p := ⟨w.heap.size, 0, none⟩) hm0).trans k0', (hb.cell (p := ⟨w1.heap.size, 0, none⟩) hm1).trans k1', (hb.cell (p := ⟨C, 3, none⟩) hC5).trans q3', (hb.cell (p := ⟨L, fr * 2, none⟩) hL5).trans q4', (hb.cell (p := ⟨L, fr * 2 + 1, none⟩) hL5).trans q5'⟩) (first | (go_at_call 42; refine (CE.out _).mono ?_; rintro e w' ⟨rfl, hb⟩))
      all_goals
        go_wp2
        go_ret2
        exact ⟨rfl, HBW.out.trans (((below_drew1 (Below.refl _ _)).trans hb).mono HBW.out.size)⟩
  · obtain rfl : fr = n := by omega
    have d3 : ((fr : Int) == (fr : Int)) = true := by simp
    go_wp2_with fail
    go_quiet (fail)
    go_wp2
    go_ret2
    exact ⟨rfl, HBW.out.trans (drewN_b _ _)⟩
set_option maxHeartbeats 8000000 in
set_option maxRecDepth 1000000 in
theorem Read_yes (p m : Nat) (h : CacheAt w N C lvl size xs os lA c oA oc) (hf : Fit size xs) (hs : size ≤ 65536) (hl : 0 < lvl) (hm : 0 < m) (hp : p + m ≤ size) (hk : knB xs p m = true) :
    Calls Try.prog 15 #[.pointer (some ⟨C, 0, none⟩), .int .i64 (p : Int), .int .i64 (m : Int)] w fun e w' => ∃ v, e = .returned (.tuple #[v, .bool true]) ∧ w'.ownsRow w.heap.size 5 1 v m (nums .u8 (bytesAt xs p m)) ∧ AllU8 w' v ∧ Below w.heap.size w w' := by
  have hlen := ok_len' hf.ok hf.top
  have hB1 := (Below.refl w.heap.size w).alloc (Nat.le_refl _) (.cells #[.pointer (some ⟨C, 0, none⟩)] 24)
  have hH0 := heap_alloc_new w (.cells #[.pointer (some ⟨C, 0, none⟩)] 24)
  obtain ⟨w1, hw1⟩ : ∃ w1, w.alloc (.cells #[.pointer (some ⟨C, 0, none⟩)] 24) = w1 := ⟨_, rfl⟩
  rw [hw1] at hB1 hH0
  have hB2 := (Below.refl w1.heap.size w1).alloc (Nat.le_refl _) (.cells #[.int .i64 (p : Int)] 3)
  have hH1 := heap_alloc_new w1 (.cells #[.int .i64 (p : Int)] 3)
  obtain ⟨w2, hw2⟩ : ∃ w2, w1.alloc (.cells #[.int .i64 (p : Int)] 3) = w2 := ⟨_, rfl⟩
  rw [hw2] at hB2 hH1
  have l0 := (Array.getElem?_eq_some_iff.1 hH0).1
  have m1 := (Array.getElem?_eq_some_iff.1 hH1).1
  have m0 : w.heap.size < w2.heap.size := by have := hB2.size; omega
  have k0 : w2.cell? ⟨w.heap.size, 0, none⟩ = some (.pointer (some ⟨C, 0, none⟩)) := by rw [Lib.cell_of_heap ((hB2.block _ l0).trans hH0)]; rfl
  have k1 : w2.cell? ⟨w1.heap.size, 0, none⟩ = some (.int .i64 (p : Int)) := by rw [Lib.cell_of_heap hH1]; rfl
  have hBB := hB1.trans (hB2.mono hB1.size)
  have h2 := h.below hBB
  have C1 := Lib.hid (off_on C w2 h2.c0)
  have q1 := h2.c1
  have cW := within_calls C size (p : Int) (m : Int) w2 h2.c2 hs
  rw [decide_eq_true (by omega)] at cW
  have cS := readSearch_calls C p w.heap.size w1.heap.size xs lA c w2 h2.known h2.c3 h2.lt hf.ok (by omega) (fun x hm => by have := hf.top x hm; omega) (by omega) k0 k1 m0 m1
  have hspec := kn_spec p m hm xs 0 hf.ok
  have hfl := frN_le (p + 1) xs
  have hiff := frN_iff (p + 1) xs 0 hf.ok
  have hCl := h2.lt
  have q3 := h2.c3
  obtain ⟨n, hn⟩ : ∃ n, xs.length = n := ⟨_, rfl⟩
  obtain ⟨fr, hfr⟩ : ∃ fr, frN (p + 1) xs = fr := ⟨_, rfl⟩
  rw [hn] at cS hfl q3 hlen
  rw [hfr] at cS hfl hspec hiff
  have hKS : ∀ w', Below w2.heap.size w2 w' → w'.cell? ⟨w.heap.size, 0, none⟩ = some (.pointer (some ⟨C, 0, none⟩)) ∧ w'.cell? ⟨w1.heap.size, 0, none⟩ = some (.int .i64 (p : Int)) ∧ w'.cell? ⟨C, 3, none⟩ = some (.slice lA n c) := fun w' h =>
    ⟨(h.cell (p := ⟨w.heap.size, 0, none⟩) m0).trans k0, (h.cell (p := ⟨w1.heap.size, 0, none⟩) m1).trans k1, (h.cell (p := ⟨C, 3, none⟩) hCl).trans q3⟩
  have KS := Lib.hid hKS
  have CS := Lib.hid cS
  have CW := Lib.hid cW
  have HBB := Lib.hid hBB
  have HS := Lib.hid hspec
  have HIF := Lib.hid hiff
  have HK := Lib.hid hk
  have H2 := Lib.hid h2
  have HF := Lib.hid hf
  have HN := Lib.hid hn
  have d1 : ((lvl : Int) == 0) = false := by simp; omega
  have d2 : decide ((m : Int) < 1) = false := by simp; omega
  clear h h2 hB1 hB2 hH0 hH1 hBB l0 hKS cS cW hspec hiff hk hf hn hfr
  go_enter Try.func15, Try.ntmps15
  go_wp2_with fail
  refine (C1.out).mono ?_
  rintro e w3 ⟨rfl, rfl⟩
  clear hw1 hw2
  go_wp2_with fail
  refine (CW.out).mono ?_
  rintro e w4 ⟨rfl, rfl⟩
  go_wp2_with fail
  refine (CS.out).mono ?_
  rintro e w5 ⟨rfl, hb5⟩
  clear q1 q3
  have HB5 := Lib.hid hb5
  have HBW := Lib.hid (HBB.out.trans (hb5.mono HBB.out.size))
  obtain ⟨k0', k1', q3'⟩ := KS.out _ hb5
  clear k0 k1 hb5
  obtain ⟨x, hx, hxp, hxm⟩ := HS.out.1 HK.out
  have hlt : fr < n := by have := (List.getElem?_eq_some_iff.1 hx).1; have := HN.out; omega
  have d3 : ((fr : Int) == (n : Int)) = false := by simp; omega
  obtain ⟨L, A, c', rfl, hL, q4, q5, hbr⟩ := H2.out.known.piece hx
  have i0 : (fr : Int) < (n : Int) := by omega
  have hxt := HF.out.top x (List.mem_of_getElem? hx)
  have hen : en x = x.1 + x.2.length := rfl
  have hbytes := bytesAt_of HF.out.ok (List.mem_of_getElem? hx) p m hxp hxm
  have HBY := Lib.hid hbytes
  have hC5 : C < w5.heap.size := Nat.lt_of_lt_of_le hCl HB5.out.size
  have hm0 : w.heap.size < w5.heap.size := Nat.lt_of_lt_of_le m0 HB5.out.size
  have hm1 : w1.heap.size < w5.heap.size := Nat.lt_of_lt_of_le m1 HB5.out.size
  have hL5 : L < w5.heap.size := Nat.lt_of_lt_of_le hL HB5.out.size
  have hKX : ∀ w', Below w5.heap.size w5 w' → w'.cell? ⟨w.heap.size, 0, none⟩ = some (.pointer (some ⟨C, 0, none⟩)) ∧ w'.cell? ⟨w1.heap.size, 0, none⟩ = some (.int .i64 (p : Int)) ∧ w'.cell? ⟨C, 3, none⟩ = some (.slice (some ⟨L, 0, none⟩) n c) ∧ w'.cell? ⟨L, fr * 2, none⟩ = some (.int .i64 (x.1 : Int)) ∧ w'.cell? ⟨L, fr * 2 + 1, none⟩ = some (.slice A x.2.length c') := fun w' hb =>
    ⟨(hb.cell (p := ⟨w.heap.size, 0, none⟩) hm0).trans k0', (hb.cell (p := ⟨w1.heap.size, 0, none⟩) hm1).trans k1', (hb.cell (p := ⟨C, 3, none⟩) hC5).trans q3', ((HB5.out.trans (hb.mono HB5.out.size)).cell (p := ⟨L, fr * 2, none⟩) hL).trans q4, ((HB5.out.trans (hb.mono HB5.out.size)).cell (p := ⟨L, fr * 2 + 1, none⟩) hL).trans q5⟩
  have KX := Lib.hid hKX
  have CE := Lib.hid (fun W => end_calls x.1 x.2.length c' A W (by omega))
  obtain ⟨f, hf⟩ : ∃ f, p - x.1 = f := ⟨_, rfl⟩
  obtain ⟨hi, hhi⟩ : ∃ hi, f + m = hi := ⟨_, rfl⟩
  have hpl : ((bytesAt xs p m).length : Nat) = m := bytesAt_length _ _ _
  have hpart := hbr.part f m (by omega) hm
  rw [← hf, ← hbytes] at hpart
  rw [hf] at hpart
  have cC := fun W (hW : Below w5.heap.size w5 W) => Clone2_calls (A.map fun a => a.add f) m (bytesAt xs p m) W (hpart.kept fun g cs fz hh => kept_below (HB5.out.trans (hW.mono HB5.out.size)) _ _ hh).ba (by rw [hpl]; exact hm) (by rw [hpl]; omega)
  rw [hpl] at cC
  have CC := Lib.hid cC
  have hsg := fun W => run_part A x.2.length c' f hi m hm hhi.symm (by omega) hbr.1 W
  have hwr1 : IntKind.i64.wrap ((p : Int) - (x.1 : Int)) = (f : Int) := by rw [wrap_small _ (by omega) (by omega)]; omega
  have hwr2 : IntKind.i64.wrap ((f : Int) + (m : Int)) = (hi : Int) := by rw [wrap_small _ (by omega) (by omega)]; omega
  have d4 : decide ((p : Int) < (x.1 : Int)) = false := by simp; omega
  have hpx : ¬ p < x.1 := by omega
  have hdec : decide ((x.1 : Int) + (x.2.length : Int) < (p : Int) + (m : Int)) = false := by simp; omega
  have hwr : IntKind.i64.wrap ((p : Int) + (m : Int)) = (p : Int) + (m : Int) := wrap_small _ (by omega) (by omega)
  obtain ⟨_, _, _, q4', q5'⟩ := hKX _ (Below.refl _ _)
  clear q4 q5 hx hbr hKX hf hhi hbytes hpl hpart cC
  go_wp2_with fail
  go_region_held3 (fun w' => Below w5.heap.size w5 w' ∧ w'.cell? ⟨w.heap.size, 0, none⟩ = some (.pointer (some ⟨C, 0, none⟩)) ∧ w'.cell? ⟨w1.heap.size, 0, none⟩ = some (.int .i64 (p : Int)) ∧ w'.cell? ⟨C, 3, none⟩ = some (.slice (some ⟨L, 0, none⟩) n c) ∧ w'.cell? ⟨L, fr * 2, none⟩ = some (.int .i64 (x.1 : Int)) ∧ w'.cell? ⟨L, fr * 2 + 1, none⟩ = some (.slice A x.2.length c')) (first | exact ⟨below_drew1 (Below.refl _ _), k0', k1', q3', q4', q5'⟩ | exact ⟨(below_drew1 (Below.refl _ _)).trans hb, KX.out _ ((below_drew1 (Below.refl _ _)).trans hb)⟩) (first | (go_at_call 42; refine (CE.out _).mono ?_; rintro e w' ⟨rfl, hb⟩))
  have hb6 := (below_drew1 (Below.refl w5.heap.size w5)).trans hb
  obtain ⟨k0'', k1'', q3'', q4'', q5''⟩ := KX.out _ hb6
  have HB6 := Lib.hid hb6
  clear hb hb6 k0' k1' q3' q4' q5' hdec
  go_wp2_with fail
  go_quiet (fail)
  go_wp2_with fail
  refine (CC.out _ (HB6.out.trans (drewN_b _ _))).mono ?_
  rintro e w9 ⟨v, rfl, ho, hu, hb9⟩
  have ho' := own_mono (base' := w.heap.size) ho (Nat.le_trans HBW.out.size (HB6.out.trans (drewN_b _ _)).size)
  have HFIN := Lib.hid (And.intro ho' (And.intro hu (HBW.out.trans (((HB6.out.trans (drewN_b _ _)).trans (hb9.mono HB6.out.size)).mono HBW.out.size))))
  clear ho ho' hu hb9
  go_wp2_with fail
  go_ret2
  exact ⟨v, rfl, HFIN.out.1, HFIN.out.2.1, HFIN.out.2.2⟩
end Go.Proofs.Ytbnkiefchbcfgaa.U
