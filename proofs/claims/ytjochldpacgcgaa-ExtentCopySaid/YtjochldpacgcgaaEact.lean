/- extent: an act, done to both. -/
import Derived.Test.YtjochldpacgcgaaEworks
set_option linter.unusedVariables false
set_option linter.unusedSimpArgs false
namespace Go.Proofs.Ytjochldpacgcgaa.U
open Go.RowKit Go.Proofs Go.Lib Go.Proofs.YtjochldpacgcgaaW.PrintWords Go.Proofs.Ytjochldpacgcgaa.PR

theorem Two.ne {w : World} {base D R size : Nat} {xs : List Ext} {lA : Option Addr} {c : Nat} {B : List Int} {Z : List Bool} {vB vZ : Value} (h : Two w base D R size xs lA c B Z vB vZ) : D < w.heap.size ∧ R < w.heap.size ∧ (∀ L, lA = some ⟨L, 0, none⟩ → L < w.heap.size) ∧ (∀ k, vB.ownBlock = some k → k < w.heap.size) ∧ ∀ k, vZ.ownBlock = some k → k < w.heap.size :=
  ⟨h.d.cells.2.2.2, h.r.cells.2.2.2.2, fun L e => (h.d.lA_lt L e).1, fun k hk => (h.r.rb.lt k hk).2, fun k hk => (h.r.rz.lt k hk).2⟩
theorem FrR.below_ {w w' w0 : World} {base R : Nat} {B : List Int} {Z : List Bool} {vB vZ vB' vZ' : Value} (hf : FrR w w' R vB vZ vB' vZ') (hr : RefAt w base R B Z vB vZ) (hbR : base ≤ R) (h0 : Below base w0 w) (hb : base ≤ w0.heap.size) : Below base w0 w' :=
  ⟨hf.os.trans h0.os, hf.tape.trans h0.tape, hf.output.trans h0.output, Nat.le_trans h0.size hf.size, fun k hk =>
    (hf.block k (Nat.lt_of_lt_of_le hk (Nat.le_trans hb h0.size)) (by omega) (fun e => by have := (hr.rb.lt k e).1; omega) (fun e => by have := (hr.rz.lt k e).1; omega)).trans (h0.block k hk)⟩
/-- Behind an act. -/
def After (w0 : World) (base D R : Nat) (w' : World) : Prop := Pair w' base D R ∧ Below base w0 w'
set_option maxHeartbeats 16000000 in
set_option maxRecDepth 1000000 in
theorem act_write (base D R : Nat) (p n : Int) (A : Option Addr) (bs : List Int) (ca : Nat) (w : World) (h : Pair w base D R) (hbase : base ≤ w.heap.size) (hA : BA w A ca bs) (hb : 0 < bs.length → ∀ g o, A = some ⟨g, o, none⟩ → g < base) (hbl : bs.length ≤ 4611686018427387904) :
    Calls Try.prog 26 #[.pointer (some ⟨D, 0, none⟩), .pointer (some ⟨R, 0, none⟩), .agg #[.int .i64 1, .int .i64 p, .int .i64 n, .slice A bs.length ca]] w fun e w' => e = .returned (.bool true) ∧ After w base D R w' := by
  obtain ⟨size, xs, lA, c, B, Z, vB, vZ, h⟩ := h
  have hba : Below w.heap.size w (w.alloc (.cells #[.int .i64 1, .int .i64 p, .int .i64 n, .slice A bs.length ca] 56)) := (Below.refl _ _).alloc (Nat.le_refl _) _
  have hX := heap_alloc_new w (.cells #[.int .i64 1, .int .i64 p, .int .i64 n, .slice A bs.length ca] 56)
  obtain ⟨wa, hwa⟩ : ∃ wa, w.alloc (.cells #[.int .i64 1, .int .i64 p, .int .i64 n, .slice A bs.length ca] 56) = wa := ⟨_, rfl⟩
  rw [hwa] at hba hX
  have hbd : Below wa.heap.size wa wa.drew := below_drew1 (Below.refl _ _)
  have ha := (h.below hba).below hbd
  have hAa := (hA.keep hba).keep hbd
  obtain ⟨n1, n2, n3, n4, n5⟩ := h.ne
  have hX1 : wa.drew.cell? ⟨w.heap.size, 1, none⟩ = some (.int .i64 p) := by rw [Lib.cell_of_heap (w := wa.drew) hX]; rfl
  have hX3 : wa.drew.cell? ⟨w.heap.size, 3, none⟩ = some (.slice A bs.length ca) := by rw [Lib.cell_of_heap (w := wa.drew) hX]; rfl
  have q0 : wa.cell? ⟨w.heap.size, 0, none⟩ = some (.int .i64 1) := by rw [Lib.cell_of_heap hX]; rfl
  have hXs : w.heap.size < wa.drew.heap.size := (Array.getElem?_eq_some_iff.1 hX).1
  have HT := Lib.hid ha
  have HA := Lib.hid hAa
  have HB := Lib.hid (((Below.refl w.heap.size w).trans hba).trans (hbd.mono hba.size))
  have HBB := Lib.hid hb
  clear h hA ha hAa hba hX hbd hb
  go_enter Try.func26, Try.ntmps26
  go_wp2_with fail
  clear hwa
  refine AnyL.start (fun w' => w'.cell? ⟨w.heap.size, 1, none⟩ = some (.int .i64 p) ∧ w'.cell? ⟨w.heap.size, 3, none⟩ = some (.slice A bs.length ca)) 99 (by kernel_rfl) ⟨hX1, hX3⟩ (fun hHeld => ?_)
  refine AnyL.take (i := 0) (v := ?vy0) rfl (by kernel_rfl) (by kernel_rfl) (by kernel_rfl) (by kernel_rfl) (fun _ _ _ h => h) (by assumption) (Or.inl ⟨by rfl, ?y0⟩) ?ry0
  case y0 => (intro w hSw; (try dsimp only at hSw); go_simp; try with_reducible rfl)
  try simp only [Act.put, List.setIfInBounds_toArray, List.set_cons_zero, List.set_cons_succ]
  refine AnyL.take (i := 1) (v := ?vy1) rfl (by kernel_rfl) (by kernel_rfl) (by kernel_rfl) (by kernel_rfl) (fun _ _ _ h => h) (by assumption) (Or.inl ⟨by rfl, ?y1⟩) ?ry1
  case y1 => (intro w hSw; (try dsimp only at hSw); go_simp; try with_reducible rfl)
  try simp only [Act.put, List.setIfInBounds_toArray, List.set_cons_zero, List.set_cons_succ]
  refine AnyL.take (i := 2) (v := ?vy2) rfl (by kernel_rfl) (by kernel_rfl) (by kernel_rfl) (by kernel_rfl) (fun _ _ _ h => h) (by assumption) (Or.inl ⟨by rfl, ?y2⟩) ?ry2
  case y2 => (intro w hSw; (try dsimp only at hSw); go_simp; try with_reducible rfl)
  try simp only [Act.put, List.setIfInBounds_toArray, List.set_cons_zero, List.set_cons_succ]
  refine AnyL.take (i := 3) (v := ?vy3) rfl (by kernel_rfl) (by kernel_rfl) (by kernel_rfl) (by kernel_rfl) (fun _ _ _ h => h) (by assumption) (Or.inl ⟨by rfl, ?y3⟩) ?ry3
  case y3 => (intro w hSw; (try dsimp only at hSw); go_simp; try with_reducible rfl)
  try simp only [Act.put, List.setIfInBounds_toArray, List.set_cons_zero, List.set_cons_succ]
  refine AnyL.take (i := 4) (v := ?vy4) rfl (by kernel_rfl) (by kernel_rfl) (by kernel_rfl) (by kernel_rfl) (fun _ _ _ h => h) (by assumption) (Or.inl ⟨by rfl, ?y4⟩) ?ry4
  case y4 => (intro w hSw; (try dsimp only at hSw); go_simp; try with_reducible rfl)
  try simp only [Act.put, List.setIfInBounds_toArray, List.set_cons_zero, List.set_cons_succ]
  refine AnyL.take (i := 6) (v := ?vy6) rfl (by kernel_rfl) (by kernel_rfl) (by kernel_rfl) (by kernel_rfl) (fun _ _ _ h => h) (by assumption) (Or.inl ⟨by rfl, ?y6⟩) ?ry6
  case y6 => (intro w hSw; (try dsimp only at hSw); go_simp; try with_reducible rfl)
  try simp only [Act.put, List.setIfInBounds_toArray, List.set_cons_zero, List.set_cons_succ]
  refine AnyL.take (i := 7) (v := ?vy7) rfl (by kernel_rfl) (by kernel_rfl) (by kernel_rfl) (by kernel_rfl) (fun _ _ _ h => h) (by assumption) (Or.inl ⟨by rfl, ?y7⟩) ?ry7
  case y7 => (intro w hSw; (try dsimp only at hSw); go_simp; try with_reducible rfl)
  try simp only [Act.put, List.setIfInBounds_toArray, List.set_cons_zero, List.set_cons_succ]
  refine AnyL.take (i := 8) (v := ?vy8) rfl (by kernel_rfl) (by kernel_rfl) (by kernel_rfl) (by kernel_rfl) (fun _ _ _ h => h) (by assumption) (Or.inl ⟨by rfl, ?y8⟩) ?ry8
  case y8 => (intro w hSw; (try dsimp only at hSw); go_simp; try with_reducible rfl)
  try simp only [Act.put, List.setIfInBounds_toArray, List.set_cons_zero, List.set_cons_succ]
  refine AnyL.take (i := 9) (v := ?vy9) rfl (by kernel_rfl) (by kernel_rfl) (by kernel_rfl) (by kernel_rfl) (fun _ _ _ h => h) (by assumption) (Or.inl ⟨by rfl, ?y9⟩) ?ry9
  case y9 => (intro w hSw; (try dsimp only at hSw); go_simp; try with_reducible rfl)
  try simp only [Act.put, List.setIfInBounds_toArray, List.set_cons_zero, List.set_cons_succ]
  refine AnyL.take (i := 10) (v := ?vy10) rfl (by kernel_rfl) (by kernel_rfl) (by kernel_rfl) (by kernel_rfl) (fun _ _ _ h => h) (by assumption) (Or.inl ⟨by rfl, ?y10⟩) ?ry10
  case y10 => (intro w hSw; (try dsimp only at hSw); go_simp; try with_reducible rfl)
  try simp only [Act.put, List.setIfInBounds_toArray, List.set_cons_zero, List.set_cons_succ]
  refine AnyL.one (i := 5) (by kernel_rfl) rfl (fun K hK => ?_)
  go_simp
  refine (TW HT.out.one p A bs ca HA.out).mono ?_
  rintro e w5 ⟨code, size', xs', lA', c', rfl, hd5, hf5, hs5, ho5⟩
  have hx5 : w5.heap[w.heap.size]? = wa.drew.heap[w.heap.size]? := hf5.block _ hXs (by omega) (fun L e => by have := n3 L e; omega)
  have hS5 : w5.cell? ⟨w.heap.size, 1, none⟩ = some (.int .i64 p) ∧ w5.cell? ⟨w.heap.size, 3, none⟩ = some (.slice A bs.length ca) :=
    ⟨(World.cell?_of_block (a := ⟨w.heap.size, 1, none⟩) hx5).trans hX1, (World.cell?_of_block (a := ⟨w.heap.size, 3, none⟩) hx5).trans hX3⟩
  have hr5 := HT.out.r.fr HT.out.d hf5
  have hb5 : Below base w w5 := hf5.below (HB.out.mono hbase) hbase HT.out.bD HT.out.bL
  have hA5 : BA w5 A ca bs := by
    have h1 := HA.out
    refine ⟨h1.1, fun h0 => ?_⟩
    obtain ⟨g, o, rfl, hg, hc⟩ := h1.2 h0
    have hgb := HBB.out h0 g o rfl
    have hgw : g < wa.drew.heap.size := hg
    refine ⟨g, o, rfl, Nat.lt_of_lt_of_le hg hf5.size, fun j u hj => ?_⟩
    rw [← hc j u hj, Addr.add_lit]
    exact World.cell?_of_block (a := ⟨g, o + j, none⟩) (hf5.block g hgw (by have := HT.out.bD; omega) (fun L e => by have := HT.out.bL L e; omega))
  have hbase5 : base ≤ w5.heap.size := Nat.le_trans (Nat.le_trans hbase (Nat.le_of_lt hXs)) hf5.size
  refine hK.out _ _ (.inr hS5) ?_
  clear hHeld hK K
  have hHeld := hS5
  try simp only [Act.put, List.setIfInBounds_toArray, List.set_cons_zero, List.set_cons_succ]
  refine AnyL.one (i := 11) (by kernel_rfl) rfl (fun K hK => ?_)
  go_simp
  have hzl : Z.length = B.length := by rw [HT.out.rel.zl, HT.out.rel.bl]
  have hBl : B.length ≤ 65536 := by rw [HT.out.rel.bl]; exact HT.out.small
  refine (TRW hr5 hzl hBl hbase5 HT.out.bR p A bs ca hA5 HBB.out hbl).mono ?_
  rintro e w7 ⟨code2, B', Z', vB', vZ', rfl, hr7, hf7, ho7⟩
  obtain ⟨rfl, hrel, hsm⟩ := WOut.agree HT.out.rel HT.out.small ho5 ho7
  have hx7 : w7.heap[w.heap.size]? = w5.heap[w.heap.size]? := hf7.block _ (Nat.lt_of_lt_of_le hXs hf5.size) (by omega) (fun e => by have := n4 _ e; omega) (fun e => by have := n5 _ e; omega)
  have hS7 : w7.cell? ⟨w.heap.size, 1, none⟩ = some (.int .i64 p) ∧ w7.cell? ⟨w.heap.size, 3, none⟩ = some (.slice A bs.length ca) :=
    ⟨(World.cell?_of_block (a := ⟨w.heap.size, 1, none⟩) hx7).trans hS5.1, (World.cell?_of_block (a := ⟨w.heap.size, 3, none⟩) hx7).trans hS5.2⟩
  have hok5 : Ok 0 xs' := hrel.ok
  have hd7 := hd5.d.frR hr5 hok5 hf7
  have hb7 := hf7.below_ hr5 HT.out.bR hb5 hbase
  have hbL' : ∀ L, lA' = some ⟨L, 0, none⟩ → base ≤ L := fun L e => by
    rcases hs5 L e with h1 | h1
    · exact HT.out.bL L h1
    · exact Nat.le_trans (Nat.le_trans hbase (Nat.le_of_lt hXs)) h1
  have HFIN : Hid (After w base D R w7) := Lib.hid ⟨⟨size', xs', lA', c', B', Z', vB', vZ', hd7, hr7, hrel, hsm, HT.out.bD, hbL', HT.out.bR⟩, hb7⟩
  refine hK.out _ _ (.inr hS7) ?_
  clear hHeld hK K
  have hHeld := hS7
  clear hS5 hd5 hf5 hs5 ho5 hr5 hb5 hA5 hr7 hf7 ho7 hrel hsm hx7 hx5 hok5 hd7 hb7 hbL' hzl hBl
  try simp only [Act.put, List.setIfInBounds_toArray, List.set_cons_zero, List.set_cons_succ]
  refine AnyL.take (i := 12) (v := ?vy12) rfl (by kernel_rfl) (by kernel_rfl) (by kernel_rfl) (by kernel_rfl) (fun _ _ _ h => h) (by assumption) (Or.inl ⟨by rfl, ?y12⟩) ?ry12
  case y12 => (intro w hSw; (try dsimp only at hSw); go_simp; try with_reducible rfl)
  try simp only [Act.put, List.setIfInBounds_toArray, List.set_cons_zero, List.set_cons_succ]
  refine AnyL.take (i := 13) (v := ?vy13) rfl (by kernel_rfl) (by kernel_rfl) (by kernel_rfl) (by kernel_rfl) (fun _ _ _ h => h) (by assumption) (Or.inl ⟨by rfl, ?y13⟩) ?ry13
  case y13 => (intro w hSw; (try dsimp only at hSw); go_simp; try with_reducible rfl)
  try simp only [Act.put, List.setIfInBounds_toArray, List.set_cons_zero, List.set_cons_succ]
  refine AnyL.done (by kernel_rfl) ?_ _
  clear hHeld hS7
  go_wp2_with fail
  go_ret
  exact ⟨rfl, HFIN.out⟩
set_option maxHeartbeats 16000000 in
set_option maxRecDepth 1000000 in
theorem act_cut (base D R : Nat) (p n : Int) (A : Option Addr) (k ca : Nat) (w : World) (h : Pair w base D R) (hbase : base ≤ w.heap.size) :
    Calls Try.prog 26 #[.pointer (some ⟨D, 0, none⟩), .pointer (some ⟨R, 0, none⟩), .agg #[.int .i64 2, .int .i64 p, .int .i64 n, .slice A k ca]] w fun e w' => e = .returned (.bool true) ∧ After w base D R w' := by
  obtain ⟨size, xs, lA, c, B, Z, vB, vZ, h⟩ := h
  have hba : Below w.heap.size w (w.alloc (.cells #[.int .i64 2, .int .i64 p, .int .i64 n, .slice A k ca] 56)) := (Below.refl _ _).alloc (Nat.le_refl _) _
  have hX := heap_alloc_new w (.cells #[.int .i64 2, .int .i64 p, .int .i64 n, .slice A k ca] 56)
  obtain ⟨wa, hwa⟩ : ∃ wa, w.alloc (.cells #[.int .i64 2, .int .i64 p, .int .i64 n, .slice A k ca] 56) = wa := ⟨_, rfl⟩
  rw [hwa] at hba hX
  have hbd : Below wa.heap.size wa wa.drew := below_drew1 (Below.refl _ _)
  have ha := (h.below hba).below hbd
  obtain ⟨n1, n2, n3, n4, n5⟩ := h.ne
  have hX2 : wa.drew.cell? ⟨w.heap.size, 2, none⟩ = some (.int .i64 n) := by rw [Lib.cell_of_heap (w := wa.drew) hX]; rfl
  have q0 : wa.cell? ⟨w.heap.size, 0, none⟩ = some (.int .i64 2) := by rw [Lib.cell_of_heap hX]; rfl
  have hXs : w.heap.size < wa.drew.heap.size := (Array.getElem?_eq_some_iff.1 hX).1
  have HT := Lib.hid ha
  have HB := Lib.hid (((Below.refl w.heap.size w).trans hba).trans (hbd.mono hba.size))
  clear h ha hba hX hbd
  go_enter Try.func26, Try.ntmps26
  go_wp2_with fail
  clear hwa
  refine AnyL.start (fun w' => w'.cell? ⟨w.heap.size, 2, none⟩ = some (.int .i64 n)) 99 (by kernel_rfl) hX2 (fun hHeld => ?_)
  refine AnyL.take (i := 0) (v := ?vy0) rfl (by kernel_rfl) (by kernel_rfl) (by kernel_rfl) (by kernel_rfl) (fun _ _ _ h => h) (by assumption) (Or.inl ⟨by rfl, ?y0⟩) ?ry0
  case y0 => (intro w hSw; (try dsimp only at hSw); go_simp; try with_reducible rfl)
  try simp only [Act.put, List.setIfInBounds_toArray, List.set_cons_zero, List.set_cons_succ]
  refine AnyL.take (i := 1) (v := ?vy1) rfl (by kernel_rfl) (by kernel_rfl) (by kernel_rfl) (by kernel_rfl) (fun _ _ _ h => h) (by assumption) (Or.inl ⟨by rfl, ?y1⟩) ?ry1
  case y1 => (intro w hSw; (try dsimp only at hSw); go_simp; try with_reducible rfl)
  try simp only [Act.put, List.setIfInBounds_toArray, List.set_cons_zero, List.set_cons_succ]
  refine AnyL.take (i := 2) (v := ?vy2) rfl (by kernel_rfl) (by kernel_rfl) (by kernel_rfl) (by kernel_rfl) (fun _ _ _ h => h) (by assumption) (Or.inl ⟨by rfl, ?y2⟩) ?ry2
  case y2 => (intro w hSw; (try dsimp only at hSw); go_simp; try with_reducible rfl)
  try simp only [Act.put, List.setIfInBounds_toArray, List.set_cons_zero, List.set_cons_succ]
  refine AnyL.take (i := 4) (v := ?vy4) rfl (by kernel_rfl) (by kernel_rfl) (by kernel_rfl) (by kernel_rfl) (fun _ _ _ h => h) (by assumption) (Or.inl ⟨by rfl, ?y4⟩) ?ry4
  case y4 => (intro w hSw; (try dsimp only at hSw); go_simp; try with_reducible rfl)
  try simp only [Act.put, List.setIfInBounds_toArray, List.set_cons_zero, List.set_cons_succ]
  refine AnyL.take (i := 5) (v := ?vy5) rfl (by kernel_rfl) (by kernel_rfl) (by kernel_rfl) (by kernel_rfl) (fun _ _ _ h => h) (by assumption) (Or.inl ⟨by rfl, ?y5⟩) ?ry5
  case y5 => (intro w hSw; (try dsimp only at hSw); go_simp; try with_reducible rfl)
  try simp only [Act.put, List.setIfInBounds_toArray, List.set_cons_zero, List.set_cons_succ]
  refine AnyL.take (i := 6) (v := ?vy6) rfl (by kernel_rfl) (by kernel_rfl) (by kernel_rfl) (by kernel_rfl) (fun _ _ _ h => h) (by assumption) (Or.inl ⟨by rfl, ?y6⟩) ?ry6
  case y6 => (intro w hSw; (try dsimp only at hSw); go_simp; try with_reducible rfl)
  try simp only [Act.put, List.setIfInBounds_toArray, List.set_cons_zero, List.set_cons_succ]
  refine AnyL.one (i := 3) (by kernel_rfl) rfl (fun K hK => ?_)
  go_simp
  refine (TC HT.out.one n).mono ?_
  rintro e w5 ⟨code, size', xs', c', rfl, hd5, hf5, ho5⟩
  have hx5 : w5.heap[w.heap.size]? = wa.drew.heap[w.heap.size]? := hf5.block _ hXs (by omega) (fun L e => by have := n3 L e; omega)
  have hS5 : w5.cell? ⟨w.heap.size, 2, none⟩ = some (.int .i64 n) := (World.cell?_of_block (a := ⟨w.heap.size, 2, none⟩) hx5).trans hX2
  have hr5 := HT.out.r.fr HT.out.d hf5
  have hb5 : Below base w w5 := hf5.below (HB.out.mono hbase) hbase HT.out.bD HT.out.bL
  have hbase5 : base ≤ w5.heap.size := Nat.le_trans (Nat.le_trans hbase (Nat.le_of_lt hXs)) hf5.size
  refine hK.out _ _ (.inr hS5) ?_
  clear hHeld hK K
  have hHeld := hS5
  try simp only [Act.put, List.setIfInBounds_toArray, List.set_cons_zero, List.set_cons_succ]
  refine AnyL.one (i := 7) (by kernel_rfl) rfl (fun K hK => ?_)
  go_simp
  have hzl : Z.length = B.length := by rw [HT.out.rel.zl, HT.out.rel.bl]
  have hBl : B.length ≤ 65536 := by rw [HT.out.rel.bl]; exact HT.out.small
  refine (TRC hr5 hzl hBl hbase5 n).mono ?_
  rintro e w7 ⟨code2, B', Z', vB', vZ', rfl, hr7, hf7, ho7⟩
  obtain ⟨rfl, hrel, hsm⟩ := CtOut.agree HT.out.rel HT.out.small ho5 ho7
  have hx7 : w7.heap[w.heap.size]? = w5.heap[w.heap.size]? := hf7.block _ (Nat.lt_of_lt_of_le hXs hf5.size) (by omega) (fun e => by have := n4 _ e; omega) (fun e => by have := n5 _ e; omega)
  have hS7 : w7.cell? ⟨w.heap.size, 2, none⟩ = some (.int .i64 n) := (World.cell?_of_block (a := ⟨w.heap.size, 2, none⟩) hx7).trans hS5
  have hd7 := hd5.d.frR hr5 hrel.ok hf7
  have hb7 := hf7.below_ hr5 HT.out.bR hb5 hbase
  have HFIN : Hid (After w base D R w7) := Lib.hid ⟨⟨size', xs', lA, c', B', Z', vB', vZ', hd7, hr7, hrel, hsm, HT.out.bD, HT.out.bL, HT.out.bR⟩, hb7⟩
  refine hK.out _ _ (.inr hS7) ?_
  clear hHeld hK K
  have hHeld := hS7
  clear hS5 hd5 hf5 ho5 hr5 hb5 hr7 hf7 ho7 hrel hsm hx7 hx5 hd7 hb7 hzl hBl
  try simp only [Act.put, List.setIfInBounds_toArray, List.set_cons_zero, List.set_cons_succ]
  refine AnyL.take (i := 8) (v := ?vy8) rfl (by kernel_rfl) (by kernel_rfl) (by kernel_rfl) (by kernel_rfl) (fun _ _ _ h => h) (by assumption) (Or.inl ⟨by rfl, ?y8⟩) ?ry8
  case y8 => (intro w hSw; (try dsimp only at hSw); go_simp; try with_reducible rfl)
  try simp only [Act.put, List.setIfInBounds_toArray, List.set_cons_zero, List.set_cons_succ]
  refine AnyL.take (i := 9) (v := ?vy9) rfl (by kernel_rfl) (by kernel_rfl) (by kernel_rfl) (by kernel_rfl) (fun _ _ _ h => h) (by assumption) (Or.inl ⟨by rfl, ?y9⟩) ?ry9
  case y9 => (intro w hSw; (try dsimp only at hSw); go_simp; try with_reducible rfl)
  try simp only [Act.put, List.setIfInBounds_toArray, List.set_cons_zero, List.set_cons_succ]
  refine AnyL.done (by kernel_rfl) ?_ _
  clear hHeld hS7
  go_wp2_with fail
  go_ret
  exact ⟨rfl, HFIN.out⟩
set_option maxHeartbeats 16000000 in
set_option maxRecDepth 1000000 in
theorem act_read (base D R : Nat) (p n : Int) (A : Option Addr) (k ca : Nat) (w : World) (h : Pair w base D R) (hbase : base ≤ w.heap.size) (hn : n ≤ 9223372036854775807) :
    Calls Try.prog 26 #[.pointer (some ⟨D, 0, none⟩), .pointer (some ⟨R, 0, none⟩), .agg #[.int .i64 3, .int .i64 p, .int .i64 n, .slice A k ca]] w fun e w' => e = .returned (.bool true) ∧ After w base D R w' := by
  obtain ⟨size, xs, lA, c, B, Z, vB, vZ, h⟩ := h
  have hba : Below w.heap.size w (w.alloc (.cells #[.int .i64 3, .int .i64 p, .int .i64 n, .slice A k ca] 56)) := (Below.refl _ _).alloc (Nat.le_refl _) _
  have hX := heap_alloc_new w (.cells #[.int .i64 3, .int .i64 p, .int .i64 n, .slice A k ca] 56)
  obtain ⟨wa, hwa⟩ : ∃ wa, w.alloc (.cells #[.int .i64 3, .int .i64 p, .int .i64 n, .slice A k ca] 56) = wa := ⟨_, rfl⟩
  rw [hwa] at hba hX
  have ha := h.below hba
  have q0 : wa.cell? ⟨w.heap.size, 0, none⟩ = some (.int .i64 3) := by rw [Lib.cell_of_heap hX]; rfl
  have q1 : wa.cell? ⟨w.heap.size, 1, none⟩ = some (.int .i64 p) := by rw [Lib.cell_of_heap hX]; rfl
  have q2 : wa.cell? ⟨w.heap.size, 2, none⟩ = some (.int .i64 n) := by rw [Lib.cell_of_heap hX]; rfl
  have hXs : w.heap.size < wa.heap.size := (Array.getElem?_eq_some_iff.1 hX).1
  have HT := Lib.hid ha
  have HB := Lib.hid hba
  have C1 := Lib.hid (TR ha.one p n hn)
  clear h ha hba hX
  go_enter Try.func26, Try.ntmps26
  go_wp2_with fail
  refine (C1.out).mono ?_
  rintro e w5 ⟨code, A5, c5, b5, rfl, hA5, _, hb5, ho5⟩
  have ht5 := HT.out.below hb5
  have hBl : B.length ≤ 65536 := by rw [ht5.rel.bl]; exact ht5.small
  have q3 := (hb5.cell (p := ⟨w.heap.size, 1, none⟩) hXs).trans q1
  have q4 := (hb5.cell (p := ⟨w.heap.size, 2, none⟩) hXs).trans q2
  have HT5 := Lib.hid ht5
  have HA5 := Lib.hid hA5
  have HB5 := Lib.hid (HB.out.trans (hb5.mono HB.out.size))
  have HO5 := Lib.hid ho5
  have C2 := Lib.hid (TRR ht5.r hBl p n hn)
  clear ht5 hA5 hb5 ho5 hwa q0 q1 q2 C1
  go_wp2_with fail
  refine (C2.out).mono ?_
  rintro e w7 ⟨code2, A7, c7, b7, rfl, hA7, hb7, ho7⟩
  obtain ⟨rfl, rfl⟩ := ROut.agree HT5.out.rel HO5.out ho7
  have hbl : b5.length ≤ 1000000000 := by
    rcases HO5.out with ⟨_, rfl⟩ | ⟨_, _, _, _, m, hm, rfl⟩
    · exact Nat.zero_le _
    · rw [bytesAt_length]
      have := HT5.out.small
      omega
  have C3 := Lib.hid (Same_eq A5 A7 c5 c7 b5 w7 (HA5.out.keep hb7) hA7 (Nat.le_trans hbl (by decide)))
  have HT7 := Lib.hid (HT5.out.below hb7)
  have HB7 := Lib.hid (HB5.out.trans (hb7.mono HB5.out.size))
  clear hA7 hb7 ho7 hbl C2 q3 q4
  go_wp2_with fail
  refine (C3.out).mono ?_
  rintro e w9 ⟨rfl, hb9⟩
  have HFIN : Hid (After w base D R w9) := Lib.hid ⟨⟨size, xs, lA, c, B, Z, vB, vZ, HT7.out.below hb9⟩, (HB7.out.trans (hb9.mono HB7.out.size)).mono hbase⟩
  clear hb9 C3
  go_wp2_with fail
  go_ret
  exact ⟨rfl, HFIN.out⟩
set_option maxHeartbeats 4000000 in
theorem act_none (base D R : Nat) (d p n : Int) (A : Option Addr) (k ca : Nat) (w : World) (h : Pair w base D R) (hbase : base ≤ w.heap.size) (h1 : d ≠ 1) (h2 : d ≠ 2) (h3 : d ≠ 3) :
    Calls Try.prog 26 #[.pointer (some ⟨D, 0, none⟩), .pointer (some ⟨R, 0, none⟩), .agg #[.int .i64 d, .int .i64 p, .int .i64 n, .slice A k ca]] w fun e w' => e = .returned (.bool true) ∧ After w base D R w' := by
  have d1 : (d == 1) = false := by simpa using h1
  have d2 : (d == 2) = false := by simpa using h2
  have d3 : (d == 3) = false := by simpa using h3
  have hba : Below w.heap.size w (w.alloc (.cells #[.int .i64 d, .int .i64 p, .int .i64 n, .slice A k ca] 56)) := (Below.refl _ _).alloc (Nat.le_refl _) _
  have HFIN : Hid (After w base D R (w.alloc (.cells #[.int .i64 d, .int .i64 p, .int .i64 n, .slice A k ca] 56))) := Lib.hid ⟨h.below hba, hba.mono hbase⟩
  clear h hba
  go_enter Try.func26, Try.ntmps26
  go_wp2_with fail
  go_ret
  exact ⟨rfl, HFIN.out⟩
theorem act_calls (base D R : Nat) (d p n : Int) (A : Option Addr) (bs : List Int) (ca : Nat) (w : World) (h : Pair w base D R) (hbase : base ≤ w.heap.size) (hA : BA w A ca bs) (hb : 0 < bs.length → ∀ g o, A = some ⟨g, o, none⟩ → g < base) (hbl : bs.length ≤ 4611686018427387904) (hn : n ≤ 9223372036854775807) :
    Calls Try.prog 26 #[.pointer (some ⟨D, 0, none⟩), .pointer (some ⟨R, 0, none⟩), .agg #[.int .i64 d, .int .i64 p, .int .i64 n, .slice A bs.length ca]] w fun e w' => e = .returned (.bool true) ∧ After w base D R w' := by
  by_cases h1 : d = 1
  · subst h1; exact act_write base D R p n A bs ca w h hbase hA hb hbl
  · by_cases h2 : d = 2
    · subst h2; exact act_cut base D R p n A bs.length ca w h hbase
    · by_cases h3 : d = 3
      · subst h3; exact act_read base D R p n A bs.length ca w h hbase hn
      · exact act_none base D R d p n A bs.length ca w h hbase h1 h2 h3
end Go.Proofs.Ytjochldpacgcgaa.U
