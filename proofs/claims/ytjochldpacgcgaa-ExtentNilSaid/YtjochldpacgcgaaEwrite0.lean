/- extent: Write into a file that has no piece. -/
import Derived.Test.YtjochldpacgcgaaEclone
import Derived.Deep.RegionWith
set_option linter.unusedVariables false
set_option linter.unusedSimpArgs false
namespace Go.Proofs.Ytjochldpacgcgaa.U
open Go.RowKit Go.Proofs Go.Lib Go.Proofs.YtjochldpacgcgaaW.PrintWords

theorem own_form {w : World} {base n : Nat} {v : Value} {xs : List Value} (h : w.ownsRow base 41 2 v (n + 1) xs) :
    ∃ L cap cur, v = .slice (some ⟨L, 0, none⟩) (n + 1) cap ∧ base ≤ L ∧ w.heap[L]? = some (.cells cur 41 (0, 0)) ∧ n + 1 ≤ cap ∧ cur.size = cap * 2 ∧ cur.toList.take ((n + 1) * 2) = xs := by
  rcases h.2 with ⟨_, h⟩ | ⟨L, cc, cur, hv, hL, hhL, hcc, _, hsz, htk⟩
  · omega
  · exact ⟨L, cc, cur, hv, hL, hhL, hcc, hsz, htk⟩
theorem set_cell {w : World} {g j : Nat} {cs : Array Value} {t : TypeId} {fz : Nat × Nat} (h : w.heap[g]? = some (.cells cs t fz)) (v : Value) : (w.setCell ⟨g, j, none⟩ v).heap[g]? = some (.cells (cs.setIfInBounds j v) t fz) := by
  simp only [World.setCell, Array.getElem?_modify, if_true, h, Option.map_some]
  rfl
theorem set_other {w : World} {g j k : Nat} (v : Value) (h : k ≠ g) : (w.setCell ⟨g, j, none⟩ v).heap[k]? = w.heap[k]? := by
  simp only [World.setCell, Array.getElem?_modify]
  rw [if_neg (fun e => h e.symm)]
/-- What a file's block becomes. -/
theorem data_set {w5 : World} {D L size size' n p O cap cc : Nat} {cur : Array Value} {bs : List Int} (hD : w5.heap[D]? = some (.cells #[.bool true, .int .i64 (size : Int), .slice none 0 0] 49 (0, 0))) (hhL : w5.heap[L]? = some (.cells cur 41 (0, 0)))
    (hcc : 1 ≤ cc) (hsz : cur.size = cc * 2) (htk : cur.toList.take 2 = [.int .i64 (p : Int), .slice (some ⟨O, 0, none⟩) n cap]) (hn : bs.length = n) (hBR : BR w5 (some ⟨O, 0, none⟩) cap bs) :
    DataAt ((w5.setCell ⟨D, 2, none⟩ (.slice (some ⟨L, 0, none⟩) 1 cc)).setCell ⟨D, 1, none⟩ (.int .i64 (size' : Int))) D size' [(p, bs)] (some ⟨L, 0, none⟩) cc := by
  have hLD : L ≠ D := by
    rintro rfl
    rw [hD] at hhL
    injection hhL with hhL
    injection hhL with _ e
    exact absurd e (by decide)
  refine ⟨?_, .inr ⟨L, cur, rfl, ?_, hsz, hcc, ?_⟩⟩
  · rw [set_cell (set_cell hD _)]
    rfl
  · rw [set_other _ hLD, set_other _ hLD]
    exact hhL
  · intro j x hj
    cases j with
    | succ j => simp at hj
    | zero =>
      rw [List.getElem?_cons_zero] at hj
      injection hj with hj
      subst hj
      have e0 : (cur.toList.take 2)[0]? = some (.int .i64 (p : Int)) := by rw [htk]; rfl
      have e1 : (cur.toList.take 2)[1]? = some (.slice (some ⟨O, 0, none⟩) n cap) := by rw [htk]; rfl
      rw [List.getElem?_take, if_pos (by decide), Array.getElem?_toList] at e0 e1
      refine ⟨_, _, e0, by rw [hn]; exact e1, ?_⟩
      refine hBR.kept fun g cs fz hh => ?_
      have hgD : g ≠ D := by
        rintro rfl
        rw [hD] at hh
        injection hh with hh
        injection hh with _ e
        exact absurd e (by decide)
      rw [set_other _ hgD, set_other _ hgD]
      exact hh
set_option maxHeartbeats 8000000 in
set_option maxRecDepth 1000000 in
theorem Write_first (D size p : Nat) (A : Option Addr) (c : Nat) (bs : List Int) (w : World) (h : DataAt w D size [] none 0) (hR : BR w A c bs) (h0 : 0 < bs.length) (hb : p + bs.length ≤ 65536) (hs : size ≤ 65536) :
    Calls Try.prog 16 #[.pointer (some ⟨D, 0, none⟩), .int .i64 (p : Int), .slice A bs.length c] w fun e w' => e = .returned (.int .i64 0) ∧ (∃ L cc, DataAt w' D (max size (p + bs.length)) [(p, bs)] (some ⟨L, 0, none⟩) cc) ∧ ∀ B, B ≤ D → B ≤ w.heap.size → Below B w w' := by
  obtain ⟨q1, q2, q3, hD⟩ := h.cells
  have c1 := off_on D w q1
  have c2 := from_calls D size p [] none 0 w h trivial (by decide) (fun x hx => by cases hx) (by omega)
  have c3 := fun W (hW : Below w.heap.size w W) => Clone_calls A c bs W (hR.kept fun g cs fz hh => kept_below hW _ _ hh) h0 (by omega)
  rw [show frN p [] = 0 from rfl] at c2
  have C1 := Lib.hid c1
  have C2 := Lib.hid c2
  have C3 := Lib.hid c3
  have HD := Lib.hid h
  generalize hn : bs.length = n at *
  have HN := Lib.hid hn
  have d1 : decide ((p : Int) < 0) = false := by simp
  have d2 : ((n : Int) == 0) = false := by simp; omega
  have d3 : decide ((65536 : Int) < (p : Int)) = false := by simp; omega
  have d4 : decide ((65536 : Int) - (p : Int) < (n : Int)) = false := by simp; omega
  clear c1 c2 c3 h hR hn
  go_enter Try.func16, Try.ntmps16
  go_wp2_with fail
  refine (C1.out).mono ?_
  rintro e w1 ⟨rfl, rfl⟩
  go_wp2_with fail
  refine (C2.out).mono ?_
  rintro e w2 ⟨rfl, hb2⟩
  have HB2 := Lib.hid hb2
  have HD2 := Lib.hid (HD.out.below hb2)
  clear hb2
  go_wp2_with fail
  refine (C3.out _ HB2.out).mono ?_
  rintro e w3 ⟨v, rfl, ho, hb3⟩
  have h0n : 0 < n := by have := HN.out; omega
  obtain ⟨O, cap, rfl, hO, hBR⟩ := BR.of_own ho h0n
  have hD3 := HD2.out.below hb3
  have hbx : Below w3.heap.size w3 (w3.alloc (.cells #[.int .i64 (p : Int), .slice (some ⟨O, 0, none⟩) n cap] 41)) := (Below.refl _ _).alloc (Nat.le_refl _) _
  have hD4 := hD3.below hbx
  have hBR4 := hBR.kept fun g cs fz hh => kept_below hbx _ _ hh
  have hX := heap_alloc_new w3 (.cells #[.int .i64 (p : Int), .slice (some ⟨O, 0, none⟩) n cap] 41)
  obtain ⟨w4, hw4⟩ : ∃ w4, w3.alloc (.cells #[.int .i64 (p : Int), .slice (some ⟨O, 0, none⟩) n cap] 41) = w4 := ⟨_, rfl⟩
  rw [hw4] at hbx hD4 hBR4 hX
  obtain ⟨q4, q5, q6, hDs⟩ := hD4.cells
  have q7 : w4.cell? ⟨w3.heap.size, 0, none⟩ = some (.int .i64 (p : Int)) := by rw [Lib.cell_of_heap hX]; rfl
  have q8 : w4.cell? ⟨w3.heap.size, 1, none⟩ = some (.slice (some ⟨O, 0, none⟩) n cap) := by rw [Lib.cell_of_heap hX]; rfl
  have hbz : ∀ B, B ≤ w1.heap.size → Below B w1 w4 := fun B hB => ((HB2.out.mono hB).trans (hb3.mono (Nat.le_trans hB HB2.out.size))).trans (hbx.mono (Nat.le_trans hB (Nat.le_trans HB2.out.size hb3.size)))
  have HBZ := Lib.hid hbz
  have HD4 := Lib.hid hD4
  have HBR4 := Lib.hid hBR4
  have HX := Lib.hid hX
  clear ho hb3 hbx hD3 hD4 hBR hBR4 hX hbz HD2 HB2 C1 C2 C3
  rw [List.length_nil] at q6
  go_wp2_with fail
  go_loopw [8] (fun vl wr => vl = .int .i64 0 ∧ wr = w4) (fun _ _ => 0)
  case atStart => exact ⟨rfl, rfl⟩
  case round =>
    obtain ⟨rfl, rfl⟩ := hrel
    have hV := heap_alloc_new wr.drew (.cells #[.int .i64 (p : Int), .slice (some ⟨O, 0, none⟩) n cap] 41)
    have hb6 : Below wr.heap.size wr (wr.drew.alloc (.cells #[.int .i64 (p : Int), .slice (some ⟨O, 0, none⟩) n cap] 41)) := (below_drew1 (Below.refl _ _)).alloc (Nat.le_refl _) _
    have cR := Replace_end wr.heap.size (.slice none 0 0) 0 [] wr.heap.size (.int .i64 (p : Int)) (.slice (some ⟨O, 0, none⟩) n cap) _ ⟨rfl, .inl ⟨rfl, rfl⟩⟩ hV rfl rfl (by decide) hb6.size
    have CR := Lib.hid cR
    have HB6 := Lib.hid hb6
    clear cR hb6 hV
    go_wp2_with fail
    go_region_with (first | (go_at_call 32; refine (CR.out).mono ?_; rintro e w5 ⟨v', rfl, ho5, hg5⟩; obtain ⟨L, cc, cur, rfl, hL, hhL, hcc, hsz, htk⟩ := own_form ho5; have hh5 : w5.heap[D]? = wr.heap[D]? := (hg5.block D (Nat.lt_of_lt_of_le hDs HB6.out.size) (by simp [Value.ownBlock])).trans (HB6.out.block D hDs); have f5 := (World.cell?_of_block (a := ⟨D, 2, none⟩) hh5).trans q6; have f6 : w5.frozen? ⟨D, 2, none⟩ = false := Lib.frozen_of_heap (hh5.trans HD4.out.1) 2))
    all_goals
      have hD5 := hh5.trans HD4.out.1
      have hbr5 : BR w5 (some ⟨O, 0, none⟩) cap bs := HBR4.out.kept fun g cs fz hh => by
        have hlt := (Array.getElem?_eq_some_iff.1 hh).1
        rw [hg5.block g (Nat.lt_of_lt_of_le hlt HB6.out.size) (by simp [Value.ownBlock]), HB6.out.block g hlt]
        exact hh
      have hfin := data_set (size' := max size (p + n)) hD5 hhL hcc hsz htk HN.out hbr5
      have hb5 : ∀ B, B ≤ D → B ≤ w1.heap.size → Below B w1 w5 := fun B h1 h2 => ((HBZ.out B h2).trans (HB6.out.mono (Nat.le_trans h2 (HBZ.out _ (Nat.le_refl _)).size))).grown hg5 (Nat.le_trans h2 (Nat.le_trans (HBZ.out _ (Nat.le_refl _)).size HB6.out.size)) (fun k hk => by simp [Value.ownBlock] at hk)
      have g1 : (w5.setCell ⟨D, 2, none⟩ (.slice (some ⟨L, 0, none⟩) 1 cc)).cell? ⟨D, 1, none⟩ = some (.int .i64 (size : Int)) := by rw [Lib.cell_of_heap (set_cell hD5 _)]; rfl
      have g2 : (w5.setCell ⟨D, 2, none⟩ (.slice (some ⟨L, 0, none⟩) 1 cc)).frozen? ⟨D, 1, none⟩ = false := Lib.frozen_of_heap (set_cell hD5 _) 1
      have hfz : ∀ B, B ≤ D → B ≤ w1.heap.size → Below B w1 ((w5.setCell ⟨D, 2, none⟩ (.slice (some ⟨L, 0, none⟩) 1 cc)).setCell ⟨D, 1, none⟩ (.int .i64 ((max size (p + n) : Nat) : Int))) := fun B h1 h2 => ((hb5 B h1 h2).setCell (p := ⟨D, 2, none⟩) h1 _).setCell (p := ⟨D, 1, none⟩) h1 _
      have hif : (if (size : Int) < (p : Int) + (n : Int) then (p : Int) + (n : Int) else (size : Int)) = ((max size (p + n) : Nat) : Int) := by split <;> omega
      have HFIN := Lib.hid hfin
      have HFZ := Lib.hid hfz
      obtain ⟨w6, hw6⟩ : ∃ w6, w5.setCell ⟨D, 2, none⟩ (.slice (some ⟨L, 0, none⟩) 1 cc) = w6 := ⟨_, rfl⟩
      rw [hw6] at g1 g2 ⊢
      have HW6 := Lib.hid hw6
      clear hfin hfz hb5 hbr5 hD5 hw6 hhL hsz htk ho5 hg5 hh5 f5 f6 hL hcc q1 q2 q3 q4 q5 q6 q7 q8
      go_wp2
      go_ret
      rw [HW6.out] at HFIN HFZ
      exact ⟨rfl, ⟨_, _, HFIN.out⟩, HFZ.out⟩
end Go.Proofs.Ytjochldpacgcgaa.U
