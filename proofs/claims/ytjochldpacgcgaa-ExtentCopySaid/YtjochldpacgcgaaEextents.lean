/- extent: Extents, Copy. -/
import Derived.Test.YtjochldpacgcgaaEfr
import Derived.Test.YtjochldpacgcgaaLreg
import Derived.Deep.LoopGhost
import Derived.Lib.AppendZeros
import Derived.Outline
set_option linter.unusedVariables false
set_option linter.unusedSimpArgs false
namespace Go.Proofs.Ytjochldpacgcgaa.U
open Go.RowKit Go.Proofs Go.Lib Go.Proofs.YtjochldpacgcgaaW.PrintWords
variable {N : Nat → Prop}

theorem step_append_run {P : Program} (w : World) {ops : Array Oper} {o : Oper} {a : Act} {K : Act → World → Prop} {Q : Exit → Act → World → Prop} {E : Prop} (hgd : o.guard = none) (s x : Operand) (t tn : TypeId)
    (ho : o.op = .call { callee := .builtin .append, args := #[s, x], argTypes := #[t, tn] }) (vs vx : Value) (hs : a.eval s = vs) (hx : a.eval x = vx)
    (v' : Value) (w' : World) (hr : (Builtin.append_ #[t, tn] o.type #[vs, vx]).run P w = .ok v' w') (h : K (a.put o.dst v') w') : if Region.wanted o (yielded ops a.tmps) = true then Oper.wp P o a w K Q else E := by
  have hw : Region.wanted o (yielded ops a.tmps) = true := by simp [Region.wanted, hgd]
  rw [if_pos hw]
  exact Lib.wp_append_run w s x t tn ho vs vx hs hx v' w' hr h
theorem RowAt.u8_kept {w w' : World} {v : Value} {n : Nat} {l : List Value} (h : RowAt w v n l) (hg : w.grownBy w' v.ownBlock) : ∀ (g : Nat) (cs : Array Value) (fz : Nat × Nat), w.heap[g]? = some (Obj.cells cs 5 fz) → w'.heap[g]? = some (Obj.cells cs 5 fz) := by
  intro g cs fz hh
  have hlt := (Array.getElem?_eq_some_iff.1 hh).1
  rw [hg.block g hlt (fun e => ?_)]
  · exact hh
  · rcases h.2 with ⟨rfl, _⟩ | ⟨L, c, sp, rfl, hL, _⟩
    · cases e
    · simp only [Value.ownBlock, Option.some.injEq] at e
      subst e
      exact ne_block hh hL (by decide) rfl
/-- A row of pieces that is new: from block base on, the bytes too. -/
def NewX (w : World) (base : Nat) (v : Value) (xs : List Ext) : Prop := ∃ l, RowAt w v xs.length l ∧ EC w (fun k => k < base) l.toArray xs ∧ (∀ k, v.ownBlock = some k → base ≤ k) ∧ ∀ u ∈ l, u.oneCell' = true
theorem NewX.nil (w : World) (base : Nat) : NewX w base (.slice none 0 0) [] := ⟨[], ⟨rfl, .inl ⟨rfl, rfl⟩⟩, fun j x hj => by simp at hj, fun k hk => (by cases hk), fun u hu => (by cases hu)⟩
theorem NewX.below {w w' : World} {base : Nat} {v : Value} {xs : List Ext} (h : NewX w base v xs) (hb : Below w.heap.size w w') : NewX w' base v xs := by
  obtain ⟨l, h1, h2, h3, h4⟩ := h
  exact ⟨l, h1.below hb, h2.kept fun g cs fz hh => kept_below hb _ _ hh, h3, h4⟩
theorem NewX.length {w : World} {base : Nat} {v : Value} {xs : List Ext} (h : NewX w base v xs) : ∃ A c, v = .slice A xs.length c := by
  obtain ⟨l, h1, _⟩ := h
  exact h1.slice
/-- One piece more. -/
theorem NewX.snoc {w : World} {base V cV : Nat} {v : Value} {xs : List Ext} {x : Ext} {A : Option Addr} {c : Nat} {fz : Nat × Nat} (ty : TypeId) (h : NewX w base v xs) (hV : w.heap[V]? = some (.cells #[.int .i64 (x.1 : Int), .slice A x.2.length c] 41 fz)) (hB : BR w A c x.2) (hA : ∀ g o, A = some ⟨g, o, none⟩ → base ≤ g) (hn : xs.length ≤ 1000000) (hbase : base ≤ w.heap.size) :
    ∃ v' w', (Builtin.append_ #[38, 38] ty #[v, .slice (some ⟨V, 0, none⟩) 1 cV]).run Try.prog w = .ok v' w' ∧ NewX w' base v' (xs ++ [x]) ∧ w.grownBy w' v.ownBlock := by
  obtain ⟨l, h1, h2, h3, h4⟩ := h
  obtain ⟨v', w', r1, r2, r3, r4⟩ := run_appendE w ty v xs.length l V cV _ _ fz h1 hV rfl rfl hn h4
  refine ⟨v', w', r1, ⟨l ++ [.int .i64 (x.1 : Int), .slice A x.2.length c], ?_, ?_, fun k hk => ?_, fun u hu => ?_⟩, r3⟩
  · rw [List.length_append]; exact r2
  · have hk := h1.u8_kept r3
    have := (h2.kept hk).replace h1.1 (i := xs.length) (j := xs.length) (Nat.le_refl _) (Nat.le_refl _) x A c (hB.kept hk) (fun g o e hg => by have := hA g o e; omega)
    rw [List.take_of_length_le (by rw [h1.1]; exact Nat.le_refl _), List.drop_eq_nil_of_le (by rw [h1.1]; exact Nat.le_refl _), List.append_nil, List.take_of_length_le (Nat.le_refl _), List.drop_eq_nil_of_le (Nat.le_refl _)] at this
    exact this
  · rcases r4 k hk with h5 | h5
    · exact h3 k h5
    · omega
  · rcases List.mem_append.1 hu with hu | hu
    · exact h4 u hu
    · simp only [List.mem_cons, List.not_mem_nil, or_false] at hu
      rcases hu with rfl | rfl <;> rfl
set_option maxHeartbeats 16000000 in
set_option maxRecDepth 1000000 in
theorem Extents_calls (D size : Nat) (xs : List Ext) (lA : Option Addr) (cl : Nat) (w : World) (h : DataAt w N D size xs lA cl) (hok : Ok 0 xs) (hx : ∀ x ∈ xs, en x ≤ size) (hs : size ≤ 65536) :
    Calls Try.prog 18 #[.pointer (some ⟨D, 0, none⟩)] w fun e w' => ∃ v, e = .returned v ∧ NewX w' w.heap.size v xs ∧ Below w.heap.size w w' := by
  obtain ⟨q1, q2, q3, hD⟩ := h.cells
  have hlen := ok_len' hok hx
  have C1 := Lib.hid (off_on D w q1)
  have HD := Lib.hid h
  have HOK := Lib.hid hok
  have HX := Lib.hid hx
  generalize hnn : xs.length = nn at *
  have HL := Lib.hid hnn
  clear h hok hx hnn
  go_enter Try.func18, Try.ntmps18
  go_wp2_with fail
  refine (C1.out).mono ?_
  rintro e w1 ⟨rfl, rfl⟩
  go_wp2_with fail
  go_loopg [3, 13] nn (fun g v3 v13 wr => ∃ i : Nat, v13 = .int .i64 (i : Int) ∧ i + g = nn ∧ NewX wr w1.heap.size v3 (xs.take i) ∧ Below w1.heap.size w1 wr)
  case atStart => exact ⟨0, rfl, Nat.zero_add _, NewX.nil _ _, Below.refl _ _⟩
  case round =>
    obtain ⟨i, rfl, hig, hnx, hbw⟩ := hrel
    have HNX := Lib.hid hnx
    have HBW := Lib.hid hbw
    have HIG := Lib.hid hig
    have htl : (xs.take i).length = i := by rw [List.length_take]; have := HL.out; omega
    obtain ⟨A3, c3, hv3⟩ := hnx.length
    rw [htl] at hv3
    subst hv3
    have HTL := Lib.hid htl
    clear hnx hbw htl
    by_cases hin : i < nn
    · have d3 : decide ((i : Int) < (nn : Int)) = true := by simp; omega
      obtain ⟨x, hxi⟩ : ∃ x, xs[i]? = some x := ⟨_, List.getElem?_eq_getElem (by have := HL.out; omega)⟩
      have hDr := HD.out.below HBW.out
      obtain ⟨L, A, c', rfl, hL, q4, q5, hBR⟩ := hDr.piece hxi
      have hx0 := (HOK.out.mem x (List.mem_of_getElem? hxi)).2
      have hxe := HX.out x (List.mem_of_getElem? hxi)
      have ex : en x = x.1 + x.2.length := rfl
      have hxl : x.2.length ≤ 65536 := by omega
      have htk : xs.take (i + 1) = xs.take i ++ [x] := by
        obtain ⟨h1, h2⟩ := List.getElem?_eq_some_iff.1 hxi
        rw [List.take_succ_eq_append_getElem h1, h2]
      have HTK := Lib.hid htk
      have hba : Below wr.heap.size wr (wr.alloc (.cells #[.int .i64 (x.1 : Int), .slice A x.2.length c'] 41)) := (Below.refl _ _).alloc (Nat.le_refl _) _
      have hOa := heap_alloc_new wr (.cells #[.int .i64 (x.1 : Int), .slice A x.2.length c'] 41)
      obtain ⟨wa, hwa⟩ : ∃ wa, wr.alloc (.cells #[.int .i64 (x.1 : Int), .slice A x.2.length c'] 41) = wa := ⟨_, rfl⟩
      rw [hwa] at hba hOa
      have q11 : wa.cell? ⟨wr.heap.size, 0, none⟩ = some (.int .i64 (x.1 : Int)) := by rw [Lib.cell_of_heap hOa]; rfl
      have q12 : wa.cell? ⟨wr.heap.size, 1, none⟩ = some (.slice A x.2.length c') := by rw [Lib.cell_of_heap hOa]; rfl
      have hrw : wr.heap.size < wa.heap.size := (Array.getElem?_eq_some_iff.1 hOa).1
      have hKS : ∀ w', Below wa.heap.size wa w' → w'.cell? ⟨wr.heap.size, 0, none⟩ = some (.int .i64 (x.1 : Int)) ∧ w'.cell? ⟨wr.heap.size, 1, none⟩ = some (.slice A x.2.length c') := fun w' h =>
        ⟨(h.cell (p := ⟨wr.heap.size, 0, none⟩) hrw).trans q11, (h.cell (p := ⟨wr.heap.size, 1, none⟩) hrw).trans q12⟩
      have hBRa := hBR.kept fun g cs fz hh => kept_below hba _ _ hh
      have cC := fun W (hW : Below wa.heap.size wa W) => Clone_calls A c' x.2 W (hBRa.kept fun g cs fz hh => kept_below hW _ _ hh).ba hx0 (by omega)
      have KS := Lib.hid hKS
      have CC := Lib.hid cC
      have HBA := Lib.hid hba
      clear hKS cC hba hOa hBR hBRa htk hxi hDr ex
      go_wp2_with fail
      clear hwa
      have hS0 := KS.out _ (below_drew1 (Below.refl wa.heap.size wa))
      refine AnyL.start (fun w' => w'.cell? ⟨wr.heap.size, 0, none⟩ = some (.int .i64 (x.1 : Int)) ∧ w'.cell? ⟨wr.heap.size, 1, none⟩ = some (.slice A x.2.length c')) 99 (by kernel_rfl) hS0 (fun hHeld => ?_)
      refine AnyL.take (i := 0) (v := ?vy0) rfl (by kernel_rfl) (by kernel_rfl) (by kernel_rfl) (by kernel_rfl) (fun _ _ _ h => h) (by assumption) (Or.inl ⟨by rfl, ?y0⟩) ?ry0
      case y0 => (intro w hSw; (try dsimp only at hSw); go_simp; try with_reducible rfl)
      try simp only [Act.put, List.setIfInBounds_toArray, List.set_cons_zero, List.set_cons_succ]
      refine AnyL.take (i := 1) (v := ?vy1) rfl (by kernel_rfl) (by kernel_rfl) (by kernel_rfl) (by kernel_rfl) (fun _ _ _ h => h) (by assumption) (Or.inl ⟨by rfl, ?y1⟩) ?ry1
      case y1 => (intro w hSw; (try dsimp only at hSw); go_simp; try with_reducible rfl)
      try simp only [Act.put, List.setIfInBounds_toArray, List.set_cons_zero, List.set_cons_succ]
      refine AnyL.take (i := 2) (v := ?vy2) rfl (by kernel_rfl) (by kernel_rfl) (by kernel_rfl) (by kernel_rfl) (fun _ _ _ h => h) (by assumption) (Or.inl ⟨by rfl, ?y2⟩) ?ry2
      case y2 => (intro w hSw; (try dsimp only at hSw); go_simp; try with_reducible rfl)
      try simp only [Act.put, List.setIfInBounds_toArray, List.set_cons_zero, List.set_cons_succ]
      refine AnyL.take (i := 3) (v := ?vy3) rfl (by kernel_rfl) (by kernel_rfl) (by kernel_rfl) (by kernel_rfl) (fun _ _ _ h => h) (by assumption) (Or.inl ⟨by rfl, ?y3⟩) ?ry3
      case y3 => (intro w hSw; (try dsimp only at hSw); go_simp; try with_reducible rfl)
      try simp only [Act.put, List.setIfInBounds_toArray, List.set_cons_zero, List.set_cons_succ]
      refine AnyL.take (i := 4) (v := ?vy4) rfl (by kernel_rfl) (by kernel_rfl) (by kernel_rfl) (by kernel_rfl) (fun _ _ _ h => h) (by assumption) (Or.inl ⟨by rfl, ?y4⟩) ?ry4
      case y4 => (intro w hSw; (try dsimp only at hSw); go_simp; try with_reducible rfl)
      try simp only [Act.put, List.setIfInBounds_toArray, List.set_cons_zero, List.set_cons_succ]
      refine AnyL.one (i := 5) (by kernel_rfl) rfl (fun K hK => ?_)
      go_simp
      refine (CC.out _ (below_drew1 (Below.refl _ _))).mono ?_
      rintro e w5 ⟨v5, rfl, ho5, hb5⟩
      obtain ⟨O, cap, rfl, hO, hBO⟩ := BR.of_own ho5 hx0
      have hb6 := (below_drew1 (Below.refl wa.heap.size wa)).trans hb5
      refine hK.out _ _ (.inr (KS.out _ hb6)) ?_
      have hHeld := KS.out _ hb6
      clear hK K
      try simp only [Act.put, List.setIfInBounds_toArray, List.set_cons_zero, List.set_cons_succ]
      refine AnyL.take (i := 6) (v := ?vy6) rfl (by kernel_rfl) (by kernel_rfl) (by kernel_rfl) (by kernel_rfl) (fun _ _ _ h => h) (by assumption) (Or.inl ⟨by rfl, ?y6⟩) ?ry6
      case y6 => (intro w hSw; (try dsimp only at hSw); go_simp; try with_reducible rfl)
      try simp only [Act.put, List.setIfInBounds_toArray, List.set_cons_zero, List.set_cons_succ]
      have hbv : Below w5.heap.size w5 (w5.alloc (.cells #[.int .i64 (x.1 : Int), .slice (some ⟨O, 0, none⟩) x.2.length cap] 41)) := (Below.refl _ _).alloc (Nat.le_refl _) _
      have hV := heap_alloc_new w5 (.cells #[.int .i64 (x.1 : Int), .slice (some ⟨O, 0, none⟩) x.2.length cap] 41)
      refine AnyL.one (i := 7) (by kernel_rfl) rfl (fun K hK => ?_)
      go_simp
      obtain ⟨wv, hwv⟩ : ∃ wv, w5.alloc (.cells #[.int .i64 (x.1 : Int), .slice (some ⟨O, 0, none⟩) x.2.length cap] 41) = wv := ⟨_, rfl⟩
      rw [hwv] at hbv hV ⊢
      have hb7 := hb6.trans (hbv.mono hb6.size)
      refine hK.out _ _ (.inr (KS.out _ hb7)) ?_
      have hHeld := KS.out _ hb7
      clear hK K
      try simp only [Act.put, List.setIfInBounds_toArray, List.set_cons_zero, List.set_cons_succ]
      have hbr := HBA.out.trans (hb7.mono HBA.out.size)
      have hbw7 := HBW.out.trans (hbr.mono HBW.out.size)
      obtain ⟨v8, w8, r1, r2, r3⟩ := NewX.snoc (cV := 1) 38 (HNX.out.below hbr) hV (hBO.kept fun g cs fz hh => kept_below hbv _ _ hh) (fun g o e => by
        injection e with e
        injection e with e
        subst e
        have h1 : wa.heap.size ≤ O := hO
        have h2 := HBW.out.size
        omega) (by rw [HTL.out]; omega) hbw7.size
      refine AnyL.one (i := 8) (by kernel_rfl) rfl (fun K hK => ?_)
      refine step_append_run _ (by rfl) _ _ 38 38 (by rfl) _ _ (by rfl) (by rfl) v8 w8 r1 ?_
      have hb8 : Below w1.heap.size w1 w8 := hbw7.grown r3 hbw7.size (fun k hk => by
        obtain ⟨_, _, _, h3, _⟩ := HNX.out
        exact h3 k hk)
      have hS8 : w8.cell? ⟨wr.heap.size, 0, none⟩ = some (.int .i64 (x.1 : Int)) ∧ w8.cell? ⟨wr.heap.size, 1, none⟩ = some (.slice A x.2.length c') := by
        have h1 : w8.heap[wr.heap.size]? = wv.heap[wr.heap.size]? := r3.block _ (Nat.lt_of_lt_of_le hrw hb7.size) (fun e => by
          obtain ⟨l, hl, _⟩ := HNX.out
          rcases hl.2 with ⟨h2, _⟩ | ⟨L', c2, sp, h2, hL', _⟩
          · rw [h2] at e; cases e
          · rw [h2] at e
            simp only [Value.ownBlock, Option.some.injEq] at e
            have := (Array.getElem?_eq_some_iff.1 hL').1
            omega)
        exact ⟨(World.cell?_of_block (a := ⟨wr.heap.size, 0, none⟩) h1).trans hHeld.1, (World.cell?_of_block (a := ⟨wr.heap.size, 1, none⟩) h1).trans hHeld.2⟩
      refine hK.out _ _ (.inr hS8) ?_
      clear hHeld
      have hHeld := hS8
      clear hK K
      try simp only [Act.put, List.setIfInBounds_toArray, List.set_cons_zero, List.set_cons_succ]
      refine AnyL.take (i := 9) (v := ?vy9) rfl (by kernel_rfl) (by kernel_rfl) (by kernel_rfl) (by kernel_rfl) (fun _ _ _ h => h) (by assumption) (Or.inl ⟨by rfl, ?y9⟩) ?ry9
      case y9 => (intro w hSw; (try dsimp only at hSw); go_simp; try with_reducible rfl)
      try simp only [Act.put, List.setIfInBounds_toArray, List.set_cons_zero, List.set_cons_succ]
      refine AnyL.done (by kernel_rfl) ?_ _
      have H2 := Lib.hid r2
      have H8 := Lib.hid hb8
      have hgm : gk - 1 < gk := by have := HIG.out; omega
      have hgi : i + 1 + (gk - 1) = nn := by have := HIG.out; omega
      have HGI := Lib.hid hgi
      clear hHeld hS8 r1 r2 r3 hb8 hb7 hb6 hb5 ho5 hBO hbr hbw7 hbv hV hwv hO hgi hig
      go_wp2_with fail
      go_roundg (gk - 1)
      case measure => exact hgm
      case rel => exact ⟨i + 1, by rw [Int.natCast_succ], HGI.out, by rw [HTK.out]; exact H2.out, H8.out⟩
    · obtain rfl : i = nn := by omega
      have d3 : decide ((i : Int) < (i : Int)) = false := by simp
      have htl : xs.take i = xs := List.take_of_length_le (by have := HL.out; omega)
      have hfin := HNX.out
      rw [htl] at hfin
      have HF := Lib.hid hfin
      clear hfin htl
      go_wp2_with fail
      go_ret
      exact ⟨_, rfl, HF.out, HBW.out⟩
/-- A file out of a new row. -/
theorem NewX.data {w : World} {base size D : Nat} {v : Value} {xs : List Ext} (h : NewX w base v xs) (hD : w.heap[D]? = some (.cells #[.bool true, .int .i64 (size : Int), v] 49 (0, 0))) :
    ∃ lA c, v = .slice lA xs.length c ∧ DataAt w (fun k => k < base) D size xs lA c ∧ ∀ L, lA = some ⟨L, 0, none⟩ → base ≤ L := by
  obtain ⟨l, h1, h2, h3, _⟩ := h
  rcases h1.2 with ⟨rfl, h0⟩ | ⟨L, c, sp, rfl, hL, hnc, hc⟩
  · obtain rfl : xs = [] := List.eq_nil_of_length_eq_zero h0
    exact ⟨none, 0, rfl, ⟨hD, .inl ⟨rfl, rfl, rfl⟩⟩, fun L e => by cases e⟩
  · refine ⟨_, c, rfl, ⟨hD, .inr ⟨L, _, rfl, hL, by rw [List.size_toArray, List.length_append]; exact hc, hnc, h2.more h1.1⟩⟩, fun L' e => ?_⟩
    injection e with e
    injection e with e
    subst e
    exact h3 L rfl
set_option maxHeartbeats 8000000 in
set_option maxRecDepth 1000000 in
theorem Copy_calls (D size : Nat) (xs : List Ext) (lA : Option Addr) (cl : Nat) (w : World) (h : DataAt w N D size xs lA cl) (hok : Ok 0 xs) (hx : ∀ x ∈ xs, en x ≤ size) (hs : size ≤ 65536) :
    Calls Try.prog 23 #[.pointer (some ⟨D, 0, none⟩)] w fun e w' => ∃ D' lA' c', e = .returned (.pointer (some ⟨D', 0, none⟩)) ∧ DataAt w' (fun k => k < w.heap.size) D' size xs lA' c' ∧ w.heap.size ≤ D' ∧ (∀ L, lA' = some ⟨L, 0, none⟩ → w.heap.size ≤ L) ∧ Below w.heap.size w w' := by
  obtain ⟨q1, q2, q3, hD⟩ := h.cells
  have C1 := Lib.hid (off_on D w q1)
  have cE := fun W (hW : Below w.heap.size w W) => Extents_calls D size xs lA cl W (h.below hW) hok hx hs
  have CE := Lib.hid cE
  clear h hok hx cE
  go_enter Try.func23, Try.ntmps23
  go_wp2_with fail
  refine (C1.out).mono ?_
  rintro e w1 ⟨rfl, rfl⟩
  go_wp2_with fail
  refine AnyL.start (fun w' => w'.cell? ⟨D, 1, none⟩ = some (.int .i64 (size : Int))) 99 (by kernel_rfl) q2 (fun hHeld => ?_)
  refine AnyL.take (i := 0) (v := ?vy0) rfl (by kernel_rfl) (by kernel_rfl) (by kernel_rfl) (by kernel_rfl) (fun _ _ _ h => h) (by assumption) (Or.inl ⟨by rfl, ?y0⟩) ?ry0
  case y0 => (intro w hSw; (try dsimp only at hSw); go_simp; try with_reducible rfl)
  try simp only [Act.put, List.setIfInBounds_toArray, List.set_cons_zero, List.set_cons_succ]
  refine AnyL.take (i := 1) (v := ?vy1) rfl (by kernel_rfl) (by kernel_rfl) (by kernel_rfl) (by kernel_rfl) (fun _ _ _ h => h) (by assumption) (Or.inl ⟨by rfl, ?y1⟩) ?ry1
  case y1 => (intro w hSw; (try dsimp only at hSw); go_simp; try with_reducible rfl)
  try simp only [Act.put, List.setIfInBounds_toArray, List.set_cons_zero, List.set_cons_succ]
  refine AnyL.take (i := 2) (v := ?vy2) rfl (by kernel_rfl) (by kernel_rfl) (by kernel_rfl) (by kernel_rfl) (fun _ _ _ h => h) (by assumption) (Or.inl ⟨by rfl, ?y2⟩) ?ry2
  case y2 => (intro w hSw; (try dsimp only at hSw); go_simp; try with_reducible rfl)
  try simp only [Act.put, List.setIfInBounds_toArray, List.set_cons_zero, List.set_cons_succ]
  refine AnyL.take (i := 3) (v := ?vy3) rfl (by kernel_rfl) (by kernel_rfl) (by kernel_rfl) (by kernel_rfl) (fun _ _ _ h => h) (by assumption) (Or.inl ⟨by rfl, ?y3⟩) ?ry3
  case y3 => (intro w hSw; (try dsimp only at hSw); go_simp; try with_reducible rfl)
  try simp only [Act.put, List.setIfInBounds_toArray, List.set_cons_zero, List.set_cons_succ]
  refine AnyL.take (i := 4) (v := ?vy4) rfl (by kernel_rfl) (by kernel_rfl) (by kernel_rfl) (by kernel_rfl) (fun _ _ _ h => h) (by assumption) (Or.inl ⟨by rfl, ?y4⟩) ?ry4
  case y4 => (intro w hSw; (try dsimp only at hSw); go_simp; try with_reducible rfl)
  try simp only [Act.put, List.setIfInBounds_toArray, List.set_cons_zero, List.set_cons_succ]
  refine AnyL.one (i := 5) (by kernel_rfl) rfl (fun K hK => ?_)
  go_simp
  refine (CE.out _ (below_drew1 (Below.refl _ _))).mono ?_
  rintro e w5 ⟨v5, rfl, hn5, hb5⟩
  have hb6 := (below_drew1 (Below.refl w1.heap.size w1)).trans hb5
  have hS5 := (hb6.cell (p := ⟨D, 1, none⟩) hD).trans q2
  refine hK.out _ _ (.inr hS5) ?_
  clear hHeld hK K
  have hHeld := hS5
  try simp only [Act.put, List.setIfInBounds_toArray, List.set_cons_zero, List.set_cons_succ]
  obtain ⟨A5, c5, rfl⟩ := hn5.length
  refine AnyL.take (i := 6) (v := ?vy6) rfl (by kernel_rfl) (by kernel_rfl) (by kernel_rfl) (by kernel_rfl) (fun _ _ _ h => h) (by assumption) (Or.inl ⟨by rfl, ?y6⟩) ?ry6
  case y6 => (intro w hSw; (try dsimp only at hSw); go_simp; try with_reducible rfl)
  try simp only [Act.put, List.setIfInBounds_toArray, List.set_cons_zero, List.set_cons_succ]
  have hbv : Below w5.heap.size w5 (w5.alloc (.cells #[.bool true, .int .i64 (size : Int), .slice A5 xs.length c5] 49)) := (Below.refl _ _).alloc (Nat.le_refl _) _
  have hV := heap_alloc_new w5 (.cells #[.bool true, .int .i64 (size : Int), .slice A5 xs.length c5] 49)
  refine AnyL.one (i := 7) (by kernel_rfl) rfl (fun K hK => ?_)
  go_simp
  obtain ⟨wv, hwv⟩ : ∃ wv, w5.alloc (.cells #[.bool true, .int .i64 (size : Int), .slice A5 xs.length c5] 49) = wv := ⟨_, rfl⟩
  rw [hwv] at hbv hV ⊢
  have hb7 := hb6.trans (hbv.mono hb6.size)
  have hS7 := (hb7.cell (p := ⟨D, 1, none⟩) hD).trans q2
  refine hK.out _ _ (.inr hS7) ?_
  clear hHeld hK K
  have hHeld := hS7
  try simp only [Act.put, List.setIfInBounds_toArray, List.set_cons_zero, List.set_cons_succ]
  refine AnyL.take (i := 8) (v := ?vy8) rfl (by kernel_rfl) (by kernel_rfl) (by kernel_rfl) (by kernel_rfl) (fun _ _ _ h => h) (by assumption) (Or.inl ⟨by rfl, ?y8⟩) ?ry8
  case y8 => (intro w hSw; (try dsimp only at hSw); go_simp; try with_reducible rfl)
  try simp only [Act.put, List.setIfInBounds_toArray, List.set_cons_zero, List.set_cons_succ]
  refine AnyL.done (by kernel_rfl) ?_ _
  obtain ⟨lA', c', e5, hd, hl⟩ := (hn5.below hbv).data hV
  have HD := Lib.hid hd
  have HL := Lib.hid hl
  have HB7 := Lib.hid hb7
  clear hd hl hb7 e5 hn5 hHeld hS7 hS5 hV hwv hbv
  go_wp2_with fail
  go_ret
  exact ⟨_, _, _, rfl, HD.out, hb6.size, HL.out, HB7.out⟩
end Go.Proofs.Ytjochldpacgcgaa.U
