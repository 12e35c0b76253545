/- extent: Write. -/
import Derived.Test.YtjochldpacgcgaaEfr
import Derived.Deep.DeepCutAuto
import Derived.Deep.LoopGhost
import Derived.Outline
import Derived.Deep.Light
import Derived.Test.YtjochldpacgcgaaLreg
import Derived.Deep.DrawnRows
set_option linter.unusedVariables false
set_option linter.unusedSimpArgs false
namespace Go.Proofs.Ytjochldpacgcgaa.U
open Go.RowKit Go.Proofs Go.Lib Go.Proofs.YtjochldpacgcgaaW.PrintWords
variable {N : Nat → Prop}

attribute [local go_sem ↓] Go.wp_at_zero Go.wp_at_succ
/-- The head of Write's loop. -/
def WRel (w0 : World) (base X lim fr nn : Nat) (xs fin : List Ext) (g : Nat) (vl : Value) (wr : World) : Prop :=
  ∃ (j : Nat) (x : Ext), vl = .int .i64 (j : Int) ∧ fr ≤ j ∧ j + g = nn ∧ mg lim x (xs.drop j) = fin ∧ x.1 ≤ lim ∧ lim ≤ en x ∧ en x ≤ 65536 ∧ 0 < x.2.length ∧ (∀ o ∈ xs.drop j, x.1 ≤ en o) ∧ Mine wr base X x ∧ Below base w0 wr
/-- What the first half of a round leaves. -/
def WHalf (w0 wa : World) (base X OLD : Nat) (o y : Ext) (A : Option Addr) (c : Nat) (wx : World) : Prop :=
  Mine wx base X y ∧ Below base w0 wx ∧ wx.heap[OLD]? = some (.cells #[.int .i64 (o.1 : Int), .slice A o.2.length c] 41 (0, 0)) ∧
    ∀ (g : Nat) (cs : Array Value) (fz : Nat × Nat), wa.heap[g]? = some (Obj.cells cs 5 fz) → wx.heap[g]? = some (Obj.cells cs 5 fz)
set_option maxHeartbeats 16000000 in
set_option maxRecDepth 1000000 in
theorem Write_calls (D size p : Nat) (A : Option Addr) (c : Nat) (bs : List Int) (xs : List Ext) (lA : Option Addr) (cl : Nat) (w : World) (h : DataAt w N D size xs lA cl) (hok : Ok 0 xs) (hN : ∀ k, N k → k < w.heap.size) (hx : ∀ x ∈ xs, en x ≤ size) (hs : size ≤ 65536) (hR : BA w A c bs) (h0 : 0 < bs.length) (hb : p + bs.length ≤ 65536) :
    Calls Try.prog 16 #[.pointer (some ⟨D, 0, none⟩), .int .i64 (p : Int), .slice A bs.length c] w fun e w' => e = .returned (.int .i64 0) ∧ ∃ lA' c', DataAt w' N D (max size (p + bs.length)) (wr p bs xs) lA' c' ∧ Fr w w' D lA ∧ SameL w lA lA' := by
  obtain ⟨q1, q2, q3, hD⟩ := h.cells
  have hlen := ok_len' hok hx
  have c1 := off_on D w q1
  have c2 := from_calls D size p xs lA cl w h hok (by omega) (fun x hm => by have := hx x hm; omega) (by omega)
  have c3 := fun W (hW : Below w.heap.size w W) => Clone_calls A c bs W (hR.keep hW) h0 (by omega)
  have hwr := wr_from p bs xs
  have hfl := frN_le p xs
  have hfs := frN_skip p xs
  have hmem := skip_mem (p := p) hok
  rw [hfs] at hwr
  have hfin : xs.take (frN p xs) ++ mg (p + bs.length) (p, bs) (xs.drop (frN p xs)) = wr p bs xs := by rw [hfs]; exact hwr.symm
  rw [← hfs] at hmem
  generalize frN p xs = fr at *
  have C1 := Lib.hid c1
  have C2 := Lib.hid c2
  have C3 := Lib.hid c3
  have HD := Lib.hid h
  have HFIN := Lib.hid hfin
  have HMEM := Lib.hid hmem
  have HX := Lib.hid hx
  have HOK := Lib.hid hok
  have HNN := Lib.hid hN
  generalize hn : bs.length = n at *
  have HN := Lib.hid hn
  generalize hnn : xs.length = nn at *
  have HL := Lib.hid hnn
  have d1 : decide ((p : Int) < 0) = false := by simp
  have d2 : ((n : Int) == 0) = false := by simp; omega
  have d3 : decide ((65536 : Int) < (p : Int)) = false := by simp; omega
  have d4 : decide ((65536 : Int) - (p : Int) < (n : Int)) = false := by simp; omega
  clear c1 c2 c3 h hR hn hwr hfs hfin hmem hx hok hnn hN
  go_enter Try.func16, Try.ntmps16
  go_wp2_with fail
  refine (C1.out).mono ?_
  rintro e w1 ⟨rfl, rfl⟩
  go_wp2_with fail
  refine (C2.out).mono ?_
  rintro e w2 ⟨rfl, hb2⟩
  have HB2 := Lib.hid hb2
  have HD2 := Lib.hid (HD.out.below hb2)
  clear hb2
  go_wp2_with fail
  refine (C3.out _ HB2.out).mono ?_
  rintro e w3 ⟨v, rfl, ho, hb3⟩
  obtain ⟨O, cap, rfl, hO, _⟩ := BR.of_own ho (by have := HN.out; omega)
  have hD3 := HD2.out.below hb3
  have hbx : Below w3.heap.size w3 (w3.alloc (.cells #[.int .i64 (p : Int), .slice (some ⟨O, 0, none⟩) n cap] 41)) := (Below.refl _ _).alloc (Nat.le_refl _) _
  have hbz : Below w1.heap.size w1 (w3.alloc (.cells #[.int .i64 (p : Int), .slice (some ⟨O, 0, none⟩) n cap] 41)) := (HB2.out.trans (hb3.mono HB2.out.size)).trans (hbx.mono (Nat.le_trans HB2.out.size hb3.size))
  have hOl := ho.lt O rfl
  have hM : Mine (w3.alloc (.cells #[.int .i64 (p : Int), .slice (some ⟨O, 0, none⟩) n cap] 41)) w1.heap.size w3.heap.size (p, bs) := by
    refine ⟨O, cap, ?_, ?_, Nat.le_trans HB2.out.size hOl.1, Nat.lt_of_lt_of_le hOl.2 hbx.size⟩
    · rw [HN.out]
      exact heap_alloc_new w3 _
    · rw [HN.out]
      exact own_mono (own_below ho hbx) HB2.out.size
  obtain ⟨w4, hw4⟩ : ∃ w4, w3.alloc (.cells #[.int .i64 (p : Int), .slice (some ⟨O, 0, none⟩) n cap] 41) = w4 := ⟨_, rfl⟩
  rw [hw4] at hbz hM
  have hX : w1.heap.size ≤ w3.heap.size := Nat.le_trans HB2.out.size hb3.size
  have hX4 : w4.heap.size = w3.heap.size + 1 := by rw [← hw4]; simp
  have HX4 := Lib.hid hX4
  have HM := Lib.hid hM
  have HBZ := Lib.hid hbz
  clear hX4 hM hbz hbx hD3 ho hb3 hOl hO HD2 HB2 C1 C2 C3
  obtain ⟨X, hXe⟩ : ∃ X, w3.heap.size = X := ⟨_, rfl⟩
  rw [hXe] at HX4 HM hX
  go_wp2_with fail
  clear hw4
  go_loopg [8] (nn - fr) (fun g vl wr => WRel w1 w1.heap.size X (p + n) fr nn xs (mg (p + n) (p, bs) (xs.drop fr)) g vl wr)
  case atStart =>
    refine ⟨fr, (p, bs), rfl, Nat.le_refl _, by omega, rfl, Nat.le_add_right _ _, ?_, ?_, ?_, HMEM.out, HM.out, HBZ.out⟩
    · show p + n ≤ p + bs.length
      rw [HN.out]; exact Nat.le_refl _
    · show p + bs.length ≤ _
      rw [HN.out]; exact hb
    · rw [HN.out]; exact h0
  case round =>
    obtain ⟨j, x, rfl, hj, hjg, hmg, hx1, hx2, hx3, hx4, hxo, hm, hbw⟩ := hrel
    have HM2 := Lib.hid hm
    have HBW := Lib.hid hbw
    have HMG := Lib.hid hmg
    have HXO := Lib.hid hxo
    have HJG := Lib.hid hjg
    clear hmg hxo hm hbw
    by_cases hgo : ∃ o, xs[j]? = some o ∧ o.1 ≤ p + n
    · obtain ⟨o, hoi, hol⟩ := hgo
      have hDr := HD.out.below HBW.out
      obtain ⟨q4, q5, q6, hDs⟩ := hDr.cells
      rw [HL.out] at q6
      obtain ⟨L, Ao, co, rfl, hLs, q9, q10, hBRo⟩ := hDr.piece hoi
      have hjn : j < nn := by have := (List.getElem?_eq_some_iff.1 hoi).1; have := HL.out; omega
      have d5 : decide ((j : Int) < (nn : Int)) = true := by simp; omega
      have d6 : decide ((o.1 : Int) ≤ (p : Int) + (n : Int)) = true := by simp; omega
      have i1 : (j : Int) < (nn : Int) := by omega
      have hdx : xs.drop j = o :: xs.drop (j + 1) := by
        obtain ⟨hb, he⟩ := List.getElem?_eq_some_iff.1 hoi
        rw [List.drop_eq_getElem_cons hb, he]
      have hxe : x.1 ≤ en o := HXO.out o (by rw [hdx]; exact List.mem_cons_self)
      have hoe : en o ≤ size := HX.out o (List.mem_of_getElem? hoi)
      have hmg2 := HMG.out
      rw [hdx, mg, if_pos hol] at hmg2
      have hen := lead_en hxe
      have hat := lead_at x o
      have hme := merge_en hxe (Nat.le_trans hol hx2)
      have hma := merge_at x o
      have hnext : ∀ o' ∈ xs.drop (j + 1), (merge x o).1 ≤ en o' := fun o' h => by
        have := HXO.out o' (by rw [hdx]; exact List.mem_cons_of_mem _ h)
        omega
      have hlo : 0 < o.2.length := (HOK.out.mem o (List.mem_of_getElem? hoi)).2
      have hyx : lead x o = if o.1 < x.1 then (o.1, o.2.take (x.1 - o.1) ++ x.2) else x := rfl
      have hzy : merge x o = if en (lead x o) < en o then ((lead x o).1, (lead x o).2 ++ o.2.drop (en (lead x o) - o.1)) else lead x o := rfl
      have eo : en o = o.1 + o.2.length := rfl
      have ex : en x = x.1 + x.2.length := rfl
      have ey : en (lead x o) = (lead x o).1 + (lead x o).2.length := rfl
      have ez : en (merge x o) = (merge x o).1 + (merge x o).2.length := rfl
      obtain ⟨y, hy⟩ : ∃ y, lead x o = y := ⟨_, rfl⟩
      obtain ⟨z, hz⟩ : ∃ z, merge x o = z := ⟨_, rfl⟩
      rw [hy] at hen hat hyx hzy ey
      rw [hz] at hmg2 hme hma hnext hzy ez
      have hba : Below wr.heap.size wr (wr.alloc (.cells #[.int .i64 (o.1 : Int), .slice Ao o.2.length co] 41)) := (Below.refl _ _).alloc (Nat.le_refl _) _
      have hOa := heap_alloc_new wr (.cells #[.int .i64 (o.1 : Int), .slice Ao o.2.length co] 41)
      have hMa := HM2.out.below hba
      obtain ⟨wa, hwa⟩ : ∃ wa, wr.alloc (.cells #[.int .i64 (o.1 : Int), .slice Ao o.2.length co] 41) = wa := ⟨_, rfl⟩
      rw [hwa] at hba hOa hMa
      have hXr : X < wr.heap.size := by
        obtain ⟨_, _, h1, _⟩ := HM2.out
        exact (Array.getElem?_eq_some_iff.1 h1).1
      have hBa : Below w1.heap.size w1 wa := HBW.out.trans (hba.mono HBW.out.size)
      have hBRa := hBRo.kept fun g cs fz hh => kept_below hba _ _ hh
      have q11 : wa.cell? ⟨wr.heap.size, 0, none⟩ = some (.int .i64 (o.1 : Int)) := by rw [Lib.cell_of_heap hOa]; rfl
      have q12 : wa.cell? ⟨wr.heap.size, 1, none⟩ = some (.slice Ao o.2.length co) := by rw [Lib.cell_of_heap hOa]; rfl
      obtain ⟨O2, cap2, hXc, hown, hO1, hO2⟩ := hMa
      have q13 : wa.cell? ⟨X, 0, none⟩ = some (.int .i64 (x.1 : Int)) := by rw [Lib.cell_of_heap hXc]; rfl
      have q14 : wa.cell? ⟨X, 1, none⟩ = some (.slice (some ⟨O2, 0, none⟩) x.2.length cap2) := by rw [Lib.cell_of_heap hXc]; rfl
      have HYX := Lib.hid hyx
      have HZY := Lib.hid hzy
      have HMG2 := Lib.hid hmg2
      have HNEXT := Lib.hid hnext
      have HBA := Lib.hid hba
      have HOA := Lib.hid hOa
      have HXC := Lib.hid hXc
      have HOWN := Lib.hid hown
      have HBa := Lib.hid hBa
      have HBR := Lib.hid hBRa
      have HEQ := Lib.hid (And.intro hen (And.intro hat (And.intro hme (And.intro hma (And.intro eo (And.intro ex (And.intro ey ez)))))))
      clear hyx hzy hmg2 hnext hba hOa hXc hown hBa hBRo hBRa hen hat hme hma eo ex ey ez hy hz hdx hoi hDr
      go_upto_if 74 with fail
      clear q9 q10 d5 d6 hwa
      go_cut [] (fun wx => WHalf w1 wa w1.heap.size X wr.heap.size o y Ao co wx)
      case first =>
        by_cases h1 : o.1 < x.1
        · have d7 : decide (o.1 < x.1) = true := by simp; omega
          obtain ⟨hen, hat, hme, hma, eo, ex, ey, ez⟩ := HEQ.out
          obtain ⟨k, hk⟩ : ∃ k, x.1 - o.1 = k := ⟨_, rfl⟩
          have hki : (x.1 : Int) - (o.1 : Int) = (k : Int) := by omega
          have w1e : IntKind.i64.wrap (k : Int) = (k : Int) := wrap_small _ (by omega) (by omega)
          have w2e : IntKind.i64.wrap ((x.1 : Int) - (o.1 : Int)) = (k : Int) := by rw [hki, w1e]
          have hko : k ≤ o.2.length := by omega
          have hk0 : 0 < k := by omega
          have hkl : (o.2.take k).length = k := by rw [List.length_take]; omega
          have hBRk : BR wa Ao co (o.2.take k) := by
            obtain ⟨b1, b2⟩ := HBR.out
            refine ⟨by omega, fun _ => ?_⟩
            obtain ⟨g, of, cs, fz, r1, r2, r3⟩ := b2 hlo
            refine ⟨g, of, cs, fz, r1, r2, fun i b hi => r3 i b ?_⟩
            rw [List.getElem?_take] at hi
            split at hi
            · exact hi
            · cases hi
          have cC := fun W (hW : Below wa.heap.size wa W) => Clone_calls Ao co (o.2.take k) W (hBRk.kept fun g cs fz hh => kept_below hW _ _ hh).ba (by omega) (by omega)
          rw [hkl] at cC
          have i2 : (k : Int) ≤ (co : Int) := by have := HBR.out.1; omega
          have hcells := HOWN.out.cells (g := O2) rfl
          have f1 : wa.frozen? ⟨X, 0, none⟩ = false := Lib.frozen_of_heap HXC.out 0
          have f2 : wa.frozen? ⟨X, 1, none⟩ = false := Lib.frozen_of_heap HXC.out 1
          have CC := Lib.hid cC
          have HCELLS := Lib.hid hcells
          have hXa : X < wa.heap.size := Nat.lt_of_lt_of_le hXr HBA.out.size
          have hKS : ∀ w', Below wa.heap.size wa w' → Below wa.heap.size wa w' ∧ w'.cell? ⟨wr.heap.size, 0, none⟩ = some (.int .i64 (o.1 : Int)) ∧ w'.cell? ⟨wr.heap.size, 1, none⟩ = some (.slice Ao o.2.length co) ∧ w'.cell? ⟨X, 0, none⟩ = some (.int .i64 (x.1 : Int)) ∧ w'.cell? ⟨X, 1, none⟩ = some (.slice (some ⟨O2, 0, none⟩) x.2.length cap2) ∧ w'.frozen? ⟨X, 0, none⟩ = false ∧ w'.frozen? ⟨X, 1, none⟩ = false := fun w' h =>
            have hr : wr.heap.size < wa.heap.size := (Array.getElem?_eq_some_iff.1 HOA.out).1
            ⟨h, (h.cell (p := ⟨wr.heap.size, 0, none⟩) hr).trans q11, (h.cell (p := ⟨wr.heap.size, 1, none⟩) hr).trans q12, (h.cell (p := ⟨X, 0, none⟩) hXa).trans q13, (h.cell (p := ⟨X, 1, none⟩) hXa).trans q14, (h.frozen (p := ⟨X, 0, none⟩) hXa).trans f1, (h.frozen (p := ⟨X, 1, none⟩) hXa).trans f2⟩
          have KS := Lib.hid hKS
          have hKB : ∀ w', Below wa.heap.size wa w' → ∀ j u, (nums .u8 x.2)[j]? = some u → w'.cell? ((⟨O2, 0, none⟩ : Addr).add j) = some u := fun w' h j u hj => by
            rw [Addr.add_lit, h.cell (p := ⟨O2, 0 + j, none⟩) hO2, ← Addr.add_lit]
            exact hcells j u hj
          have KB := Lib.hid hKB
          obtain ⟨i0, hi0, hz0, hz1, hz2⟩ := info_parts infoU8
          have HI := Lib.hid (And.intro hi0 (And.intro hz0 (And.intro hz1 hz2)))
          have hsum : k + x.2.length ≤ 65536 := by omega
          clear cC hBRk hkl hen hat hme hma eo ex ey ez hk hKS hKB hcells hi0 hz0 hz1 hz2
          go_wp2_with fail
          have hS0 := KS.out _ (below_drew1 (Below.refl wa.heap.size wa))
          refine AnyL.start (fun w' => Below wa.heap.size wa w' ∧ w'.cell? ⟨wr.heap.size, 0, none⟩ = some (.int .i64 (o.1 : Int)) ∧ w'.cell? ⟨wr.heap.size, 1, none⟩ = some (.slice Ao o.2.length co) ∧ w'.cell? ⟨X, 0, none⟩ = some (.int .i64 (x.1 : Int)) ∧ w'.cell? ⟨X, 1, none⟩ = some (.slice (some ⟨O2, 0, none⟩) x.2.length cap2) ∧ w'.frozen? ⟨X, 0, none⟩ = false ∧ w'.frozen? ⟨X, 1, none⟩ = false) 15 (by kernel_rfl) hS0 (fun hHeld => ?_)
          refine AnyL.take (i := 0) (v := ?vy0) rfl (by kernel_rfl) (by kernel_rfl) (by kernel_rfl) (by kernel_rfl) (fun _ _ _ h => h) (by assumption) (Or.inl ⟨by rfl, ?y0⟩) ?ry0
          case y0 => (intro w hSw; (try dsimp only at hSw); go_simp; try with_reducible rfl)
          try simp only [Act.put, List.setIfInBounds_toArray, List.set_cons_zero, List.set_cons_succ]
          refine AnyL.take (i := 1) (v := ?vy1) rfl (by kernel_rfl) (by kernel_rfl) (by kernel_rfl) (by kernel_rfl) (fun _ _ _ h => h) (by assumption) (Or.inl ⟨by rfl, ?y1⟩) ?ry1
          case y1 => (intro w hSw; (try dsimp only at hSw); go_simp; try with_reducible rfl)
          try simp only [Act.put, List.setIfInBounds_toArray, List.set_cons_zero, List.set_cons_succ]
          refine AnyL.take (i := 2) (v := ?vy2) rfl (by kernel_rfl) (by kernel_rfl) (by kernel_rfl) (by kernel_rfl) (fun _ _ _ h => h) (by assumption) (Or.inl ⟨by rfl, ?y2⟩) ?ry2
          case y2 => (intro w hSw; (try dsimp only at hSw); go_simp; try with_reducible rfl)
          try simp only [Act.put, List.setIfInBounds_toArray, List.set_cons_zero, List.set_cons_succ]
          refine AnyL.take (i := 3) (v := ?vy3) rfl (by kernel_rfl) (by kernel_rfl) (by kernel_rfl) (by kernel_rfl) (fun _ _ _ h => h) (by assumption) (Or.inl ⟨by rfl, ?y3⟩) ?ry3
          case y3 => (intro w hSw; (try dsimp only at hSw); go_simp; try with_reducible rfl)
          try simp only [Act.put, List.setIfInBounds_toArray, List.set_cons_zero, List.set_cons_succ]
          refine AnyL.take (i := 4) (v := ?vy4) rfl (by kernel_rfl) (by kernel_rfl) (by kernel_rfl) (by kernel_rfl) (fun _ _ _ h => h) (by assumption) (Or.inl ⟨by rfl, ?y4⟩) ?ry4
          case y4 => (intro w hSw; (try dsimp only at hSw); go_simp; try with_reducible rfl)
          try simp only [Act.put, List.setIfInBounds_toArray, List.set_cons_zero, List.set_cons_succ]
          refine AnyL.take (i := 5) (v := ?vy5) rfl (by kernel_rfl) (by kernel_rfl) (by kernel_rfl) (by kernel_rfl) (fun _ _ _ h => h) (by assumption) (Or.inl ⟨by rfl, ?y5⟩) ?ry5
          case y5 => (intro w hSw; (try dsimp only at hSw); go_simp; try with_reducible rfl)
          try simp only [Act.put, List.setIfInBounds_toArray, List.set_cons_zero, List.set_cons_succ]
          refine AnyL.take (i := 6) (v := ?vy6) rfl (by kernel_rfl) (by kernel_rfl) (by kernel_rfl) (by kernel_rfl) (fun _ _ _ h => h) (by assumption) (Or.inl ⟨by rfl, ?y6⟩) ?ry6
          case y6 => (intro w hSw; (try dsimp only at hSw); go_simp; try with_reducible rfl)
          try simp only [Act.put, List.setIfInBounds_toArray, List.set_cons_zero, List.set_cons_succ]
          refine AnyL.take (i := 7) (v := ?vy7) rfl (by kernel_rfl) (by kernel_rfl) (by kernel_rfl) (by kernel_rfl) (fun _ _ _ h => h) (by assumption) (Or.inl ⟨by rfl, ?y7⟩) ?ry7
          case y7 => (intro w hSw; (try dsimp only at hSw); go_simp; try with_reducible rfl)
          try simp only [Act.put, List.setIfInBounds_toArray, List.set_cons_zero, List.set_cons_succ]
          refine AnyL.take (i := 8) (v := ?vy8) rfl (by kernel_rfl) (by kernel_rfl) (by kernel_rfl) (by kernel_rfl) (fun _ _ _ h => h) (by assumption) (Or.inl ⟨by rfl, ?y8⟩) ?ry8
          case y8 => (intro w hSw; (try dsimp only at hSw); go_simp; try with_reducible rfl)
          try simp only [Act.put, List.setIfInBounds_toArray, List.set_cons_zero, List.set_cons_succ]
          refine AnyL.take (i := 9) (v := ?vy9) rfl (by kernel_rfl) (by kernel_rfl) (by kernel_rfl) (by kernel_rfl) (fun _ _ _ h => h) (by assumption) (Or.inl ⟨by rfl, ?y9⟩) ?ry9
          case y9 => (intro w hSw; (try dsimp only at hSw); go_simp; try with_reducible rfl)
          try simp only [Act.put, List.setIfInBounds_toArray, List.set_cons_zero, List.set_cons_succ]
          refine AnyL.take (i := 11) (v := ?vy11) rfl (by kernel_rfl) (by kernel_rfl) (by kernel_rfl) (by kernel_rfl) (fun _ _ _ h => h) (by assumption) (Or.inl ⟨by rfl, ?y11⟩) ?ry11
          case y11 => (intro w hSw; (try dsimp only at hSw); go_simp; try with_reducible rfl)
          try simp only [Act.put, List.setIfInBounds_toArray, List.set_cons_zero, List.set_cons_succ]
          refine AnyL.take (i := 12) (v := ?vy12) rfl (by kernel_rfl) (by kernel_rfl) (by kernel_rfl) (by kernel_rfl) (fun _ _ _ h => h) (by assumption) (Or.inl ⟨by rfl, ?y12⟩) ?ry12
          case y12 => (intro w hSw; (try dsimp only at hSw); go_simp; try with_reducible rfl)
          try simp only [Act.put, List.setIfInBounds_toArray, List.set_cons_zero, List.set_cons_succ]
          refine AnyL.one (i := 10) (by kernel_rfl) rfl (fun K hK => ?_)
          go_simp
          refine (CC.out _ (below_drew1 (Below.refl _ _))).mono ?_
          rintro e w5 ⟨v5, rfl, ho5, hb5⟩
          refine hK.out _ _ (.inr (KS.out _ ((below_drew1 (Below.refl _ _)).trans hb5))) ?_
          have hHeld := KS.out _ ((below_drew1 (Below.refl _ _)).trans hb5)
          clear hK K
          try simp only [Act.put, List.setIfInBounds_toArray, List.set_cons_zero, List.set_cons_succ]
          refine AnyL.one (i := 13) (by kernel_rfl) rfl (fun K hK => ?_)
          refine step_append_lies _ (by rfl) _ _ 29 (by rfl) wa.heap.size 5 i0 (.int .u8 0) 1 1 Try.underlying29 HI.out.1 HI.out.2.1 HI.out.2.2.1 HI.out.2.2.2 rfl (by decide) v5 k (nums .u8 (o.2.take k)) (by rfl) ho5 ⟨O2, 0, none⟩ x.2.length cap2 (nums .u8 x.2) (by rfl) (by rw [nums_len, Nat.mul_one]) (KB.out _ ((below_drew1 (Below.refl _ _)).trans hb5)) (nums_one x.2) hx4 (by unfold maxLen; omega) (by omega) hb5.size _ rfl ?_
          intro g6 cap6 w6 ho6 hg6 hat6 hlt6
          have hb6 := ((below_drew1 (Below.refl wa.heap.size wa)).trans hb5).grown hg6 hb5.size (fun k hk => (ho5.lt k hk).1)
          refine hK.out _ _ (.inr (KS.out _ hb6)) ?_
          have hHeld := KS.out _ hb6
          clear hK K
          try simp only [Act.put, List.setIfInBounds_toArray, List.set_cons_zero, List.set_cons_succ]
          refine AnyL.take (i := 14) (v := ?vy14) rfl (by kernel_rfl) (by kernel_rfl) (by kernel_rfl) (by kernel_rfl) (fun _ _ _ h => h) (by assumption) (Or.inl ⟨by rfl, ?y14⟩) ?ry14
          case y14 => (intro w hSw; (try dsimp only at hSw); go_simp; try with_reducible rfl)
          try simp only [Act.put, List.setIfInBounds_toArray, List.set_cons_zero, List.set_cons_succ]
          refine AnyL.one (i := 15) (by kernel_rfl) rfl (fun K hK => ?_)
          obtain ⟨_, q21, q22, q23, q24, q25, q26⟩ := hHeld
          go_simp
          refine hK.out _ _ (.inl rfl) ?_
          clear hK K
          refine AnyL.done (by kernel_rfl) ?_ _
          go_wp2_with fail
          go_meet
          have hyx := HYX.out
          rw [if_pos h1] at hyx
          obtain ⟨hen, hat, hme, hma, eo, ex, ey, ez⟩ := HEQ.out
          have hkx : x.1 - o.1 = k := by omega
          rw [hkx] at hyx
          have hy1 : y.1 = o.1 := by rw [hyx]
          have hy2 : y.2 = o.2.take k ++ x.2 := by rw [hyx]
          have hyl : y.2.length = k + x.2.length := by rw [hy2, List.length_append, List.length_take]; omega
          have hX6 := (hb6.block X hXa).trans HXC.out
          have ho7 : w6.ownsRow w1.heap.size 5 1 (.slice (some ⟨g6, 0, none⟩) y.2.length cap6) y.2.length (nums .u8 y.2) := by
            rw [hyl, hy2, nums, List.map_append]
            exact own_mono ho6 HBa.out.size
          have hM := Mine.set2 hX6 ho7 (by omega)
          rw [hy1, hyl] at hM
          refine ⟨hM, ((HBa.out.trans (hb6.mono HBa.out.size)).setCell (p := ⟨X, 0, none⟩) hX _).setCell (p := ⟨X, 1, none⟩) hX _, ?_, fun g cs fz hh => ?_⟩
          · rw [set_other _ (by omega), set_other _ (by omega), hb6.block _ (Array.getElem?_eq_some_iff.1 HOA.out).1]
            exact HOA.out
          · have hne := ne_block hh HXC.out (by decide)
            rw [set_other _ hne, set_other _ hne]
            exact kept_below hb6 _ _ hh
        · have d7 : decide (o.1 < x.1) = false := by simp; omega
          go_wp2_with fail
          go_meet
          have hyx := HYX.out
          rw [if_neg h1] at hyx
          rw [hyx]
          exact ⟨⟨O2, cap2, HXC.out, HOWN.out, hO1, hO2⟩, HBa.out, HOA.out, fun _ _ _ h => h⟩
      case rest =>
        obtain ⟨hMc, hBc, hOc, hUc⟩ := hcut
        have HBRC := Lib.hid (HBR.out.kept hUc)
        clear HBR hUc
        clear q11 q12 q13 q14 HXC HOWN hO1 hO2 HOA
        obtain ⟨O3, cap3, hXc, hown, hO1, hO2⟩ := hMc
        obtain ⟨hen, hat, hme, hma, eo, ex, ey, ez⟩ := HEQ.out
        have q11 : wc.cell? ⟨wr.heap.size, 0, none⟩ = some (.int .i64 (o.1 : Int)) := by rw [Lib.cell_of_heap hOc]; rfl
        have q12 : wc.cell? ⟨wr.heap.size, 1, none⟩ = some (.slice Ao o.2.length co) := by rw [Lib.cell_of_heap hOc]; rfl
        have q13 : wc.cell? ⟨X, 0, none⟩ = some (.int .i64 (y.1 : Int)) := by rw [Lib.cell_of_heap hXc]; rfl
        have q14 : wc.cell? ⟨X, 1, none⟩ = some (.slice (some ⟨O3, 0, none⟩) y.2.length cap3) := by rw [Lib.cell_of_heap hXc]; rfl
        have f1 : wc.frozen? ⟨X, 1, none⟩ = false := Lib.frozen_of_heap hXc 1
        have hXa : X < wc.heap.size := (Array.getElem?_eq_some_iff.1 hXc).1
        have hOa : wr.heap.size < wc.heap.size := (Array.getElem?_eq_some_iff.1 hOc).1
        have hKS : ∀ w', Below wc.heap.size wc w' → Below wc.heap.size wc w' ∧ w'.cell? ⟨wr.heap.size, 0, none⟩ = some (.int .i64 (o.1 : Int)) ∧ w'.cell? ⟨wr.heap.size, 1, none⟩ = some (.slice Ao o.2.length co) ∧ w'.cell? ⟨X, 0, none⟩ = some (.int .i64 (y.1 : Int)) ∧ w'.cell? ⟨X, 1, none⟩ = some (.slice (some ⟨O3, 0, none⟩) y.2.length cap3) ∧ w'.frozen? ⟨X, 1, none⟩ = false := fun w' h =>
          ⟨h, (h.cell (p := ⟨wr.heap.size, 0, none⟩) hOa).trans q11, (h.cell (p := ⟨wr.heap.size, 1, none⟩) hOa).trans q12, (h.cell (p := ⟨X, 0, none⟩) hXa).trans q13, (h.cell (p := ⟨X, 1, none⟩) hXa).trans q14, (h.frozen (p := ⟨X, 1, none⟩) hXa).trans f1⟩
        have KS := Lib.hid hKS
        have HXC := Lib.hid hXc
        have HOC := Lib.hid hOc
        have HOWN := Lib.hid hown
        have HBC := Lib.hid hBc
        have ce1 := fun W => end_calls o.1 o.2.length co Ao W (by omega)
        have ce2 := fun W => end_calls y.1 y.2.length cap3 (some ⟨O3, 0, none⟩) W (by omega)
        have CE1 := Lib.hid ce1
        have CE2 := Lib.hid ce2
        clear hKS hXc hOc hown hBc ce1 ce2 hen hat hme hma eo ex ey ez
        go_wp2_with fail
        have hS0 := KS.out _ (below_drew1 (Below.refl wc.heap.size wc))
        refine AnyL.start (fun w' => Below wc.heap.size wc w' ∧ w'.cell? ⟨wr.heap.size, 0, none⟩ = some (.int .i64 (o.1 : Int)) ∧ w'.cell? ⟨wr.heap.size, 1, none⟩ = some (.slice Ao o.2.length co) ∧ w'.cell? ⟨X, 0, none⟩ = some (.int .i64 (y.1 : Int)) ∧ w'.cell? ⟨X, 1, none⟩ = some (.slice (some ⟨O3, 0, none⟩) y.2.length cap3) ∧ w'.frozen? ⟨X, 1, none⟩ = false) 99 (by kernel_rfl) hS0 (fun hHeld => ?_)
        refine AnyL.take (i := 0) (v := ?vz0) rfl (by kernel_rfl) (by kernel_rfl) (by kernel_rfl) (by kernel_rfl) (fun _ _ _ h => h) (by assumption) (Or.inl ⟨by rfl, ?z0⟩) ?rz0
        case z0 => (intro w hSw; (try dsimp only at hSw); go_simp; try with_reducible rfl)
        try simp only [Act.put, List.setIfInBounds_toArray, List.set_cons_zero, List.set_cons_succ]
        refine AnyL.take (i := 2) (v := ?vz2) rfl (by kernel_rfl) (by kernel_rfl) (by kernel_rfl) (by kernel_rfl) (fun _ _ _ h => h) (by assumption) (Or.inl ⟨by rfl, ?z2⟩) ?rz2
        case z2 => (intro w hSw; (try dsimp only at hSw); go_simp; try with_reducible rfl)
        try simp only [Act.put, List.setIfInBounds_toArray, List.set_cons_zero, List.set_cons_succ]
        refine AnyL.one (i := 1) (by kernel_rfl) rfl (fun K hK => ?_)
        go_simp
        refine (CE1.out _).mono ?_
        rintro e w5 ⟨rfl, hb5⟩
        have hb6 := (below_drew1 (Below.refl wc.heap.size wc)).trans hb5
        refine hK.out _ _ (.inr (KS.out _ hb6)) ?_
        have hHeld := KS.out _ hb6
        clear hK K
        try simp only [Act.put, List.setIfInBounds_toArray, List.set_cons_zero, List.set_cons_succ]
        refine AnyL.one (i := 3) (by kernel_rfl) rfl (fun K hK => ?_)
        go_simp
        refine (CE2.out _).mono ?_
        rintro e w7 ⟨rfl, hb7⟩
        have hb8 := hb6.trans (hb7.mono hb6.size)
        refine hK.out _ _ (.inr (KS.out _ hb8)) ?_
        have hHeld := KS.out _ hb8
        clear hK K
        try simp only [Act.put, List.setIfInBounds_toArray, List.set_cons_zero, List.set_cons_succ]
        refine AnyL.take (i := 4) (v := ?vz4) rfl (by kernel_rfl) (by kernel_rfl) (by kernel_rfl) (by kernel_rfl) (fun _ _ _ h => h) (by assumption) (Or.inl ⟨by rfl, ?z4⟩) ?rz4
        case z4 => (intro w hSw; (try dsimp only at hSw); go_simp; try with_reducible rfl)
        try simp only [Act.put, List.setIfInBounds_toArray, List.set_cons_zero, List.set_cons_succ]
        refine AnyL.done (by kernel_rfl) ?_ _
        obtain ⟨hen, hat, hme, hma, eo, ex, ey, ez⟩ := HEQ.out
        by_cases h2 : en y < en o
        · have d8 : decide ((y.1 : Int) + (y.2.length : Int) < (o.1 : Int) + (o.2.length : Int)) = true := by simp; omega
          obtain ⟨gO, oO, rfl, hgO, hcO⟩ := HBRC.out.cells hlo
          obtain ⟨k, hk⟩ : ∃ k, en y - o.1 = k := ⟨_, rfl⟩
          have hki : (y.1 : Int) + (y.2.length : Int) - (o.1 : Int) = (k : Int) := by omega
          have w1e : IntKind.i64.wrap (k : Int) = (k : Int) := wrap_small _ (by omega) (by omega)
          have w2e : IntKind.i64.wrap ((y.1 : Int) + (y.2.length : Int) - (o.1 : Int)) = (k : Int) := by rw [hki, w1e]
          have i3 : (k : Int) ≤ (co : Int) := by have := HBRC.out.1; omega
          have i4 : (k : Int) ≤ (o.2.length : Int) := by omega
          have hco : ¬ co = k := by have := HBRC.out.1; omega
          have hkl : k < o.2.length := by omega
          have hsum : y.2.length + (o.2.length - k) ≤ 65536 := by omega
          have hy0 : 0 < y.2.length := by omega
          have HK := Lib.hid hk
          obtain ⟨i0, hi0, hz0, hz1, hz2⟩ := info_parts infoU8
          have HI := Lib.hid (And.intro hi0 (And.intro hz0 (And.intro hz1 hz2)))
          have HB8 := Lib.hid hb8
          have HCO := Lib.hid hcO
          clear hen hat hme hma eo ex ey ez hk hi0 hz0 hz1 hz2 hb8 hb6 hb5 hb7 hHeld hcO
          go_wp2_with fail
          have hS1 := (KS.out _ (below_drew1 HB8.out)).2
          refine AnyL.start (fun w' => w'.cell? ⟨wr.heap.size, 0, none⟩ = some (.int .i64 (o.1 : Int)) ∧ w'.cell? ⟨wr.heap.size, 1, none⟩ = some (.slice (some ⟨gO, oO, none⟩) o.2.length co) ∧ w'.cell? ⟨X, 0, none⟩ = some (.int .i64 (y.1 : Int)) ∧ w'.cell? ⟨X, 1, none⟩ = some (.slice (some ⟨O3, 0, none⟩) y.2.length cap3) ∧ w'.frozen? ⟨X, 1, none⟩ = false) 12 (by kernel_rfl) hS1 (fun hHeld => ?_)
          refine AnyL.take (i := 0) (v := ?vu0) rfl (by kernel_rfl) (by kernel_rfl) (by kernel_rfl) (by kernel_rfl) (fun _ _ _ h => h) (by assumption) (Or.inl ⟨by rfl, ?u0⟩) ?ru0
          case u0 => (intro w hSw; (try dsimp only at hSw); go_simp; try with_reducible rfl)
          try simp only [Act.put, List.setIfInBounds_toArray, List.set_cons_zero, List.set_cons_succ]
          refine AnyL.take (i := 1) (v := ?vu1) rfl (by kernel_rfl) (by kernel_rfl) (by kernel_rfl) (by kernel_rfl) (fun _ _ _ h => h) (by assumption) (Or.inl ⟨by rfl, ?u1⟩) ?ru1
          case u1 => (intro w hSw; (try dsimp only at hSw); go_simp; try with_reducible rfl)
          try simp only [Act.put, List.setIfInBounds_toArray, List.set_cons_zero, List.set_cons_succ]
          refine AnyL.take (i := 2) (v := ?vu2) rfl (by kernel_rfl) (by kernel_rfl) (by kernel_rfl) (by kernel_rfl) (fun _ _ _ h => h) (by assumption) (Or.inl ⟨by rfl, ?u2⟩) ?ru2
          case u2 => (intro w hSw; (try dsimp only at hSw); go_simp; try with_reducible rfl)
          try simp only [Act.put, List.setIfInBounds_toArray, List.set_cons_zero, List.set_cons_succ]
          refine AnyL.take (i := 3) (v := ?vu3) rfl (by kernel_rfl) (by kernel_rfl) (by kernel_rfl) (by kernel_rfl) (fun _ _ _ h => h) (by assumption) (Or.inl ⟨by rfl, ?u3⟩) ?ru3
          case u3 => (intro w hSw; (try dsimp only at hSw); go_simp; try with_reducible rfl)
          try simp only [Act.put, List.setIfInBounds_toArray, List.set_cons_zero, List.set_cons_succ]
          refine AnyL.take (i := 4) (v := ?vu4) rfl (by kernel_rfl) (by kernel_rfl) (by kernel_rfl) (by kernel_rfl) (fun _ _ _ h => h) (by assumption) (Or.inl ⟨by rfl, ?u4⟩) ?ru4
          case u4 => (intro w hSw; (try dsimp only at hSw); go_simp; try with_reducible rfl)
          try simp only [Act.put, List.setIfInBounds_toArray, List.set_cons_zero, List.set_cons_succ]
          refine AnyL.take (i := 6) (v := ?vu6) rfl (by kernel_rfl) (by kernel_rfl) (by kernel_rfl) (by kernel_rfl) (fun _ _ _ h => h) (by assumption) (Or.inl ⟨by rfl, ?u6⟩) ?ru6
          case u6 => (intro w hSw; (try dsimp only at hSw); go_simp; try with_reducible rfl)
          try simp only [Act.put, List.setIfInBounds_toArray, List.set_cons_zero, List.set_cons_succ]
          refine AnyL.take (i := 7) (v := ?vu7) rfl (by kernel_rfl) (by kernel_rfl) (by kernel_rfl) (by kernel_rfl) (fun _ _ _ h => h) (by assumption) (Or.inl ⟨by rfl, ?u7⟩) ?ru7
          case u7 => (intro w hSw; (try dsimp only at hSw); go_simp; try with_reducible rfl)
          try simp only [Act.put, List.setIfInBounds_toArray, List.set_cons_zero, List.set_cons_succ]
          refine AnyL.one (i := 5) (by kernel_rfl) rfl (fun K hK => ?_)
          go_simp
          refine (CE2.out _).mono ?_
          rintro e w9 ⟨rfl, hb9⟩
          have hb10 := (below_drew1 HB8.out).trans (hb9.mono HB8.out.size)
          refine hK.out _ _ (.inr (KS.out _ hb10).2) ?_
          have hHeld := (KS.out _ hb10).2
          clear hK K
          try simp only [Act.put, List.setIfInBounds_toArray, List.set_cons_zero, List.set_cons_succ]
          refine AnyL.take (i := 8) (v := ?vu8) rfl (by kernel_rfl) (by kernel_rfl) (by kernel_rfl) (by kernel_rfl) (fun _ _ _ h => h) (by assumption) (Or.inl ⟨by rfl, ?u8⟩) ?ru8
          case u8 => (intro w hSw; (try dsimp only at hSw); go_simp; try with_reducible rfl)
          try simp only [Act.put, List.setIfInBounds_toArray, List.set_cons_zero, List.set_cons_succ]
          refine AnyL.take (i := 9) (v := ?vu9) rfl (by kernel_rfl) (by kernel_rfl) (by kernel_rfl) (by kernel_rfl) (fun _ _ _ h => h) (by assumption) (Or.inl ⟨by rfl, ?u9⟩) ?ru9
          case u9 => (intro w hSw; (try dsimp only at hSw); go_simp; try with_reducible rfl)
          try simp only [Act.put, List.setIfInBounds_toArray, List.set_cons_zero, List.set_cons_succ]
          refine AnyL.one (i := 10) (by kernel_rfl) rfl (fun K hK => ?_)
          refine step_append_lies _ (by rfl) _ _ 29 (by rfl) w1.heap.size 5 i0 (.int .u8 0) 1 1 Try.underlying29 HI.out.1 HI.out.2.1 HI.out.2.2.1 HI.out.2.2.2 rfl (by decide) (.slice (some ⟨O3, 0, none⟩) y.2.length cap3) y.2.length (nums .u8 y.2) (by rfl) (own_below HOWN.out hb10) ⟨gO, oO + k, none⟩ (o.2.length - k) (co - k) (nums .u8 (o.2.drop k)) (by rfl) (by rw [nums_len, Nat.mul_one, List.length_drop]) ?cells (nums_one _) (by omega) (by unfold maxLen; omega) (by omega) (Nat.le_trans HBC.out.size hb10.size) _ rfl ?_
          case cells =>
            intro i u hi
            rw [Addr.add_lit, hb10.cell (p := ⟨gO, oO + k + i, none⟩) hgO, Nat.add_assoc, ← Addr.add_lit]
            refine HCO.out (k + i) u ?_
            unfold nums at hi ⊢
            rw [List.getElem?_map, List.getElem?_drop] at hi
            rw [List.getElem?_map]
            exact hi
          intro g6 cap6 w11 ho11 hg11 hat11 hlt11
          have hO3X : O3 ≠ X := fun e => by
            obtain ⟨g2, o2, cs2, fz2, e2, hg2, _⟩ := (BR.of_own' HOWN.out (by omega)).2 (by omega)
            injection e2 with e2
            injection e2 with e2 _
            exact ne_block hg2 HXC.out (by decide) (by omega)
          have hX11 : w11.heap[X]? = wc.heap[X]? := (hg11.block X (Nat.lt_of_lt_of_le hXa hb10.size) (by simp only [Value.ownBlock]; intro e; injection e with e; exact hO3X e.symm)).trans (hb10.block X hXa)
          have q21 : w11.cell? ⟨X, 1, none⟩ = some (.slice (some ⟨O3, 0, none⟩) y.2.length cap3) := (World.cell?_of_block (a := ⟨X, 1, none⟩) hX11).trans q14
          have q22 : w11.frozen? ⟨X, 1, none⟩ = false := Lib.frozen_of_heap (hX11.trans HXC.out) 1
          have hOO : wr.heap.size ≠ O3 := fun e => by
            obtain ⟨g2, o2, cs2, fz2, e2, hg2, _⟩ := (BR.of_own' HOWN.out (by omega)).2 (by omega)
            injection e2 with e2
            injection e2 with e2 _
            exact ne_block hg2 HOC.out (by decide) (by omega)
          have hO11 : w11.heap[wr.heap.size]? = wc.heap[wr.heap.size]? := (hg11.block _ (Nat.lt_of_lt_of_le hOa hb10.size) (by simp only [Value.ownBlock]; intro e; injection e with e; exact hOO e)).trans (hb10.block _ hOa)
          have q23 : w11.cell? ⟨X, 0, none⟩ = some (.int .i64 (y.1 : Int)) := (World.cell?_of_block (a := ⟨X, 0, none⟩) hX11).trans q13
          have q24 : w11.cell? ⟨wr.heap.size, 0, none⟩ = some (.int .i64 (o.1 : Int)) := (World.cell?_of_block (a := ⟨wr.heap.size, 0, none⟩) hO11).trans q11
          have q25 : w11.cell? ⟨wr.heap.size, 1, none⟩ = some (.slice (some ⟨gO, oO, none⟩) o.2.length co) := (World.cell?_of_block (a := ⟨wr.heap.size, 1, none⟩) hO11).trans q12
          refine hK.out _ _ (.inr ⟨q24, q25, q23, q21, q22⟩) ?_
          clear hHeld
          have hHeld := And.intro q24 (And.intro q25 (And.intro q23 (And.intro q21 q22)))
          clear hK K
          try simp only [Act.put, List.setIfInBounds_toArray, List.set_cons_zero, List.set_cons_succ]
          refine AnyL.take (i := 11) (v := ?vu11) rfl (by kernel_rfl) (by kernel_rfl) (by kernel_rfl) (by kernel_rfl) (fun _ _ _ h => h) (by assumption) (Or.inl ⟨by rfl, ?u11⟩) ?ru11
          case u11 => (intro w hSw; (try dsimp only at hSw); go_simp; try with_reducible rfl)
          try simp only [Act.put, List.setIfInBounds_toArray, List.set_cons_zero, List.set_cons_succ]
          refine AnyL.one (i := 12) (by kernel_rfl) rfl (fun K hK => ?_)
          go_simp
          refine hK.out _ _ (.inl rfl) ?_
          clear hK K
          refine AnyL.done (by kernel_rfl) ?_ _
          go_wp2_with fail
          have hzy := HZY.out
          rw [if_pos h2, HK.out] at hzy
          obtain ⟨hen, hat, hme, hma, eo, ex, ey, ez⟩ := HEQ.out
          have hz1 : z.1 = y.1 := by rw [hzy]
          have hz2 : z.2 = y.2 ++ o.2.drop k := by rw [hzy]
          have hzl : z.2.length = y.2.length + (o.2.length - k) := by rw [hz2, List.length_append, List.length_drop]
          have ho12 : w11.ownsRow w1.heap.size 5 1 (.slice (some ⟨g6, 0, none⟩) z.2.length cap6) z.2.length (nums .u8 z.2) := by
            rw [hzl, hz2, nums, List.map_append]
            exact ho11
          have hX12 := hX11.trans HXC.out
          rw [← hz1] at hX12
          have hM := Mine.set1 hX12 ho12 (by omega)
          rw [hzl] at hM
          have hB11 : Below w1.heap.size w1 w11 := (HBC.out.trans (hb10.mono HBC.out.size)).grown hg11 (Nat.le_trans HBC.out.size hb10.size) (fun k hk => by
            simp only [Value.ownBlock, Option.some.injEq] at hk
            omega)
          go_roundg (gk - 1)
          case measure => omega
          case rel => exact ⟨j + 1, z, by rw [Int.natCast_succ], by omega, by omega, HMG2.out, by omega, by omega, by omega, by omega, HNEXT.out, hM, hB11.setCell (p := ⟨X, 1, none⟩) hX _⟩
        · have d8 : decide ((y.1 : Int) + (y.2.length : Int) < (o.1 : Int) + (o.2.length : Int)) = false := by simp; omega
          have hle : (o.1 : Int) + (o.2.length : Int) ≤ (y.1 : Int) + (y.2.length : Int) := by omega
          have hzy := HZY.out
          rw [if_neg h2] at hzy
          have hM : Mine w7 w1.heap.size X z := by
            rw [hzy]
            exact Mine.below ⟨O3, cap3, HXC.out, HOWN.out, hO1, hO2⟩ hb8
          have hz1 : z.1 = y.1 := by rw [hzy]
          have hz2 : z.2.length = y.2.length := by rw [hzy]
          have hM_ : Mine w7 w1.heap.size X z := hM
          have hB7 := HBC.out.trans (hb8.mono HBC.out.size)
          have hjm : gk - 1 < gk := by omega
          have hx5 : z.1 ≤ p + n ∧ p + n ≤ en z ∧ en z ≤ 65536 ∧ 0 < z.2.length := by omega
          have HM7 := Lib.hid hM
          have HB7 := Lib.hid hB7
          clear hM hM_ hB7 hHeld hb8 hb7 hb6 hb5 hen hat hme hma eo ex ey ez hzy hz1 hz2
          go_wp2_with fail
          go_roundg (gk - 1)
          case measure => exact hjm
          case rel => exact ⟨j + 1, z, by rw [Int.natCast_succ], by omega, by omega, HMG2.out, hx5.1, hx5.2.1, hx5.2.2.1, hx5.2.2.2, HNEXT.out, HM7.out, HB7.out⟩
    · have hend : xs.take fr ++ x :: xs.drop j = U.wr p bs xs := by
        rw [← HFIN.out, ← HMG.out]
        congr 1
        cases hd : xs.drop j with
        | nil => rfl
        | cons o t =>
          rw [mg, if_neg]
          intro ho
          refine hgo ⟨o, ?_, ho⟩
          have := congrArg (fun l => l[0]?) hd
          simp only [List.getElem?_drop, Nat.add_zero, List.getElem?_cons_zero] at this
          exact this
      have HEND := Lib.hid hend
      obtain ⟨l, hrow, hec, hone⟩ := (HD.out.below HBW.out).row
      have hhead := HD.out.head
      obtain ⟨O2, cap2, hXc, hown, hO1, hO2⟩ := HM2.out
      have hbv : Below wr.heap.size wr (wr.drew.alloc (.cells #[.int .i64 (x.1 : Int), .slice (some ⟨O2, 0, none⟩) x.2.length cap2] 41)) := (below_drew1 (Below.refl _ _)).alloc (Nat.le_refl _) _
      have hV := heap_alloc_new wr.drew (.cells #[.int .i64 (x.1 : Int), .slice (some ⟨O2, 0, none⟩) x.2.length cap2] 41)
      have cR := Replace_calls _ _ fr j l wr.heap.size (.int .i64 (x.1 : Int)) (.slice (some ⟨O2, 0, none⟩) x.2.length cap2) _ (hrow.below hbv) hV (fun e => by
        have := (HD.out.below HBW.out).lA_lt _ (own_slice e hhead)
        omega) rfl rfl (by rw [HL.out]; omega) hj (by rw [HL.out]; have := HJG.out; omega) hone
      obtain ⟨q4, q5, q6, hDs⟩ := (HD.out.below HBW.out).cells
      rw [HL.out] at cR q6
      obtain ⟨n5, hn5⟩ : ∃ n5, fr + 1 + (nn - j) = n5 := ⟨_, rfl⟩
      rw [hn5] at cR
      have HN5 := Lib.hid hn5
      clear hn5
      have q7 : wr.cell? ⟨X, 0, none⟩ = some (.int .i64 (x.1 : Int)) := by rw [Lib.cell_of_heap hXc]; rfl
      have q8 : wr.cell? ⟨X, 1, none⟩ = some (.slice (some ⟨O2, 0, none⟩) x.2.length cap2) := by rw [Lib.cell_of_heap hXc]; rfl
      have HBV := Lib.hid hbv
      have CR := Lib.hid cR
      have HROW := Lib.hid hrow
      have HEC := Lib.hid hec
      have HXC := Lib.hid hXc
      have HOWN := Lib.hid hown
      have HHEAD := Lib.hid hhead
      clear hend hone hrow hec hXc hown hbv hV cR hhead
      have hc2 : (∃ o, xs[j]? = some o ∧ ¬ o.1 ≤ p + n) ∨ nn ≤ j := by
        rcases Nat.lt_or_ge j nn with h | h
        · have hjx : j < xs.length := by have := HL.out; omega
          exact .inl ⟨xs[j], List.getElem?_eq_getElem hjx, fun h2 => hgo ⟨xs[j], List.getElem?_eq_getElem hjx, h2⟩⟩
        · exact .inr h
      clear hgo
      rcases hc2 with ⟨o, hoi, hol⟩ | hnj
      case' inl =>
        obtain ⟨L, Ao, co, rfl, hLs, q9, q10, hBRo⟩ := (HD.out.below HBW.out).piece hoi
        have hjn : j < nn := by have := (List.getElem?_eq_some_iff.1 hoi).1; have := HL.out; omega
        have d5 : decide ((j : Int) < (nn : Int)) = true := by simp; omega
        have d6 : decide ((o.1 : Int) ≤ (p : Int) + (n : Int)) = false := by simp; omega
        have i1 : (j : Int) < (nn : Int) := by omega
        clear hoi hBRo q10
        go_wp2_with fail
        clear q9 d5 d6 i1
      case' inr =>
        have d5 : decide ((j : Int) < (nn : Int)) = false := by simp; omega
        go_wp2_with fail
        clear d5
      all_goals
        clear d1 d2 d3 d4 q1 q2 q3
        go_region_with (first | (go_at_call 32; refine (CR.out).mono ?_; rintro e w5 ⟨v', rfl, hr5, hg5, hs5⟩; obtain ⟨A5, c5, rfl⟩ := hr5.slice; have hh5 : w5.heap[D]? = wr.heap[D]? := (hg5.block D (Nat.lt_of_lt_of_le hDs HBV.out.size) (fun e => (HD.out.lA_lt _ (own_slice e.symm HHEAD.out)).2 rfl)).trans (HBV.out.block D hDs); have f5 := (World.cell?_of_block (a := ⟨D, 2, none⟩) hh5).trans q6; have f6 : w5.frozen? ⟨D, 2, none⟩ = false := Lib.frozen_of_heap (hh5.trans (HD.out.below HBW.out).1) 2))
        all_goals
          have hD5 := hh5.trans (HD.out.below HBW.out).1
          rw [HL.out] at hD5
          obtain ⟨sz, hsz⟩ : ∃ sz, max size (p + n) = sz := ⟨_, rfl⟩
          have hfin := write_end (size' := sz) HD.out HBW.out HNN.out HEC.out HROW.out.1 HOWN.out (by omega) hO1 HBV.out hg5 hs5 hr5 HN5.out.symm HL.out hj (by have := HJG.out; omega) HEND.out
          have g1 : (w5.setCell ⟨D, 2, none⟩ (.slice A5 n5 c5)).cell? ⟨D, 1, none⟩ = some (.int .i64 (size : Int)) := by rw [Lib.cell_of_heap (set_cell hD5 _)]; rfl
          have g2 : (w5.setCell ⟨D, 2, none⟩ (.slice A5 n5 c5)).frozen? ⟨D, 1, none⟩ = false := Lib.frozen_of_heap (set_cell hD5 _) 1
          have hif : (if (size : Int) < (p : Int) + (n : Int) then (p : Int) + (n : Int) else (size : Int)) = (sz : Int) := by split <;> omega
          have hmx : max (size : Int) ((p : Int) + (n : Int)) = (sz : Int) := by omega
          have HSZ := Lib.hid hsz
          have HFI := Lib.hid hfin
          obtain ⟨w6, hw6⟩ : ∃ w6, w5.setCell ⟨D, 2, none⟩ (.slice A5 n5 c5) = w6 := ⟨_, rfl⟩
          rw [hw6] at g1 g2 ⊢
          have HW6 := Lib.hid hw6
          clear hfin hsz hD5 hw6 hr5 hg5 hs5 hh5 f5 f6 q4 q5 q6 q7 q8
          go_wp2
          go_ret
          rw [HW6.out] at HFI
          rw [HSZ.out]
          exact ⟨rfl, _, _, HFI.out⟩
end Go.Proofs.Ytjochldpacgcgaa.U
