/- The document's file: Read, Cut, Write. -/
import Derived.Test.YtjochldpacgcgaaErefm
set_option linter.unusedVariables false
set_option linter.unusedSimpArgs false
namespace Go.Proofs.Ytjochldpacgcgaa.U
open Go.RowKit Go.Proofs Go.Lib Go.Proofs.YtjochldpacgcgaaW.PrintWords

theorem run_take1 (t e : TypeId) (A : Option Addr) (n c k : Nat) (ht : Try.prog.underlying t = some (.slice e)) {i : TypeInfo} (hi : Try.prog.info? e = some i) (hsz : i.size = 1) (hk : k ≤ n) (hc : n ≤ c) (W : World) :
    (Instr.slice t (.slice A n c) none (some (.int .i64 (k : Int))) none).run Try.prog W = .ok (.slice A k c) W := by
  have h := (print_take_of (Value.int .u8) (0 : Int) t e .i64 ht hi hsz A c (List.replicate n (0 : Int)) (k : Int) (by omega) (by rw [List.length_replicate]; omega) (by rw [List.length_replicate]; exact hc)).1 W
  rw [List.length_replicate, List.length_take, List.length_replicate, Int.toNat_natCast, Nat.min_eq_left hk] at h
  exact h
set_option maxHeartbeats 8000000 in
set_option maxRecDepth 1000000 in
theorem Rread_calls (base R p m : Nat) (n : Int) (B : List Int) (Z : List Bool) (vB vZ : Value) (w : World) (h : RefAt w base R B Z vB vZ) (hl : B.length ≤ 65536) (hp : p < B.length) (hn : 0 < n) (hn2 : n ≤ 9223372036854775807) (hm : (m : Int) = min n ((B.length : Int) - (p : Int))) :
    Calls Try.prog 14 #[.pointer (some ⟨R, 0, none⟩), .int .i64 (p : Int), .int .i64 n] w fun e w' => ∃ v, e = .returned (.tuple #[v, .int .i64 0]) ∧ w'.ownsRow w.heap.size 5 1 v m (nums .u8 ((B.drop p).take m)) ∧ Below w.heap.size w w' := by
  obtain ⟨q1, q2, _, _, hR⟩ := h.cells
  obtain ⟨g, cap, hv, hg, hgl⟩ := h.rb.form (by omega)
  subst hv
  have hcl : B.length ≤ cap := by
    obtain ⟨A, c, e, hc, _⟩ := own_slice_form h.rb
    injection e with _ _ e
    omega
  have hcells := h.rb.cells (g := g) rfl
  obtain ⟨i0, hi0, hz0, hz1, hz2⟩ := info_parts infoU8
  have HI := Lib.hid (And.intro hi0 (And.intro hz0 (And.intro hz1 hz2)))
  have HC := Lib.hid hcells
  generalize hb : B.length = bl at *
  have HB := Lib.hid hb
  have d1 : decide ((p : Int) < 0) = false := by simp
  have d2 : decide (n < 0) = false := by simp; omega
  have d3 : (n == 0) = false := by simp; omega
  have d4 : decide ((bl : Int) ≤ (p : Int)) = false := by simp; omega
  have hif : (if (bl : Int) - (p : Int) < n then (bl : Int) - (p : Int) else n) = (m : Int) := by
    rw [hm]
    split <;> omega
  have hmi : min n ((bl : Int) - (p : Int)) = (m : Int) := hm.symm
  have hm0 : 0 < m := by omega
  have hpm : p + m ≤ bl := by omega
  have w1e : IntKind.i64.wrap ((bl : Int) - (p : Int)) = (bl : Int) - (p : Int) := wrap_small _ (by omega) (by omega)
  have w2e : IntKind.i64.wrap ((p : Int) + (m : Int)) = (p : Int) + (m : Int) := wrap_small _ (by omega) (by omega)
  have i1 : (0 : Int) ≤ (p : Int) + (m : Int) := by omega
  have i2 : (p : Int) + (m : Int) ≤ (cap : Int) := by omega
  have i3 : (p : Int) ≤ (p : Int) + (m : Int) := by omega
  have i4 : ((p : Int) + (m : Int)).toNat = p + m := by omega
  have i5 : p + m - p = m := by omega
  have i6 : ¬ cap = p := by omega
  clear h hb hi0 hz0 hz1 hz2 hcells hm
  go_enter Try.func14, Try.ntmps14
  go_wp2_with fail
  refine AnyL.start (fun w' => w'.cell? ⟨R, 0, none⟩ = some (.slice (some ⟨g, 0, none⟩) bl cap)) 99 (by kernel_rfl) q1 (fun hHeld => ?_)
  refine AnyL.take (i := 0) (v := ?vy0) rfl (by kernel_rfl) (by kernel_rfl) (by kernel_rfl) (by kernel_rfl) (fun _ _ _ h => h) (by assumption) (Or.inl ⟨by rfl, ?y0⟩) ?ry0
  case y0 => (intro w hSw; (try dsimp only at hSw); go_simp; try with_reducible rfl)
  try simp only [Act.put, List.setIfInBounds_toArray, List.set_cons_zero, List.set_cons_succ]
  refine AnyL.take (i := 1) (v := ?vy1) rfl (by kernel_rfl) (by kernel_rfl) (by kernel_rfl) (by kernel_rfl) (fun _ _ _ h => h) (by assumption) (Or.inl ⟨by rfl, ?y1⟩) ?ry1
  case y1 => (intro w hSw; (try dsimp only at hSw); go_simp; try with_reducible rfl)
  try simp only [Act.put, List.setIfInBounds_toArray, List.set_cons_zero, List.set_cons_succ]
  refine AnyL.take (i := 2) (v := ?vy2) rfl (by kernel_rfl) (by kernel_rfl) (by kernel_rfl) (by kernel_rfl) (fun _ _ _ h => h) (by assumption) (Or.inl ⟨by rfl, ?y2⟩) ?ry2
  case y2 => (intro w hSw; (try dsimp only at hSw); go_simp; try with_reducible rfl)
  try simp only [Act.put, List.setIfInBounds_toArray, List.set_cons_zero, List.set_cons_succ]
  refine AnyL.take (i := 3) (v := ?vy3) rfl (by kernel_rfl) (by kernel_rfl) (by kernel_rfl) (by kernel_rfl) (fun _ _ _ h => h) (by assumption) (Or.inl ⟨by rfl, ?y3⟩) ?ry3
  case y3 => (intro w hSw; (try dsimp only at hSw); go_simp; try with_reducible rfl)
  try simp only [Act.put, List.setIfInBounds_toArray, List.set_cons_zero, List.set_cons_succ]
  refine AnyL.take (i := 4) (v := ?vy4) rfl (by kernel_rfl) (by kernel_rfl) (by kernel_rfl) (by kernel_rfl) (fun _ _ _ h => h) (by assumption) (Or.inl ⟨by rfl, ?y4⟩) ?ry4
  case y4 => (intro w hSw; (try dsimp only at hSw); go_simp; try with_reducible rfl)
  try simp only [Act.put, List.setIfInBounds_toArray, List.set_cons_zero, List.set_cons_succ]
  refine AnyL.take (i := 5) (v := ?vy5) rfl (by kernel_rfl) (by kernel_rfl) (by kernel_rfl) (by kernel_rfl) (fun _ _ _ h => h) (by assumption) (Or.inl ⟨by rfl, ?y5⟩) ?ry5
  case y5 => (intro w hSw; (try dsimp only at hSw); go_simp; try with_reducible rfl)
  try simp only [Act.put, List.setIfInBounds_toArray, List.set_cons_zero, List.set_cons_succ]
  refine AnyL.take (i := 6) (v := ?vy6) rfl (by kernel_rfl) (by kernel_rfl) (by kernel_rfl) (by kernel_rfl) (fun _ _ _ h => h) (by assumption) (Or.inl ⟨by rfl, ?y6⟩) ?ry6
  case y6 => (intro w hSw; (try dsimp only at hSw); go_simp; try with_reducible rfl)
  try simp only [Act.put, List.setIfInBounds_toArray, List.set_cons_zero, List.set_cons_succ]
  refine AnyL.take (i := 7) (v := ?vy7) rfl (by kernel_rfl) (by kernel_rfl) (by kernel_rfl) (by kernel_rfl) (fun _ _ _ h => h) (by assumption) (Or.inl ⟨by rfl, ?y7⟩) ?ry7
  case y7 => (intro w hSw; (try dsimp only at hSw); go_simp; try with_reducible rfl)
  try simp only [Act.put, List.setIfInBounds_toArray, List.set_cons_zero, List.set_cons_succ]
  refine AnyL.take (i := 8) (v := ?vy8) rfl (by kernel_rfl) (by kernel_rfl) (by kernel_rfl) (by kernel_rfl) (fun _ _ _ h => h) (by assumption) (Or.inl ⟨by rfl, ?y8⟩) ?ry8
  case y8 => (intro w hSw; (try dsimp only at hSw); go_simp; try with_reducible rfl)
  try simp only [Act.put, List.setIfInBounds_toArray, List.set_cons_zero, List.set_cons_succ]
  refine AnyL.take (i := 9) (v := ?vy9) rfl (by kernel_rfl) (by kernel_rfl) (by kernel_rfl) (by kernel_rfl) (fun _ _ _ h => h) (by assumption) (Or.inl ⟨by rfl, ?y9⟩) ?ry9
  case y9 => (intro w hSw; (try dsimp only at hSw); go_simp; try with_reducible rfl)
  try simp only [Act.put, List.setIfInBounds_toArray, List.set_cons_zero, List.set_cons_succ]
  refine AnyL.take (i := 10) (v := ?vy10) rfl (by kernel_rfl) (by kernel_rfl) (by kernel_rfl) (by kernel_rfl) (fun _ _ _ h => h) (by assumption) (Or.inl ⟨by rfl, ?y10⟩) ?ry10
  case y10 => (intro w hSw; (try dsimp only at hSw); go_simp; try with_reducible rfl)
  try simp only [Act.put, List.setIfInBounds_toArray, List.set_cons_zero, List.set_cons_succ]
  refine AnyL.take (i := 11) (v := ?vy11) rfl (by kernel_rfl) (by kernel_rfl) (by kernel_rfl) (by kernel_rfl) (fun _ _ _ h => h) (by assumption) (Or.inl ⟨by rfl, ?y11⟩) ?ry11
  case y11 => (intro w hSw; (try dsimp only at hSw); go_simp; try with_reducible rfl)
  try simp only [Act.put, List.setIfInBounds_toArray, List.set_cons_zero, List.set_cons_succ]
  refine AnyL.take (i := 12) (v := ?vy12) rfl (by kernel_rfl) (by kernel_rfl) (by kernel_rfl) (by kernel_rfl) (fun _ _ _ h => h) (by assumption) (Or.inl ⟨by rfl, ?y12⟩) ?ry12
  case y12 => (intro w hSw; (try dsimp only at hSw); go_simp; try with_reducible rfl)
  try simp only [Act.put, List.setIfInBounds_toArray, List.set_cons_zero, List.set_cons_succ]
  refine AnyL.take (i := 13) (v := ?vy13) rfl (by kernel_rfl) (by kernel_rfl) (by kernel_rfl) (by kernel_rfl) (fun _ _ _ h => h) (by assumption) (Or.inl ⟨by rfl, ?y13⟩) ?ry13
  case y13 => (intro w hSw; (try dsimp only at hSw); go_simp; try with_reducible rfl)
  try simp only [Act.put, List.setIfInBounds_toArray, List.set_cons_zero, List.set_cons_succ]
  refine AnyL.take (i := 14) (v := ?vy14) rfl (by kernel_rfl) (by kernel_rfl) (by kernel_rfl) (by kernel_rfl) (fun _ _ _ h => h) (by assumption) (Or.inl ⟨by rfl, ?y14⟩) ?ry14
  case y14 => (intro w hSw; (try dsimp only at hSw); go_simp; try with_reducible rfl)
  try simp only [Act.put, List.setIfInBounds_toArray, List.set_cons_zero, List.set_cons_succ]
  refine AnyL.take (i := 15) (v := ?vy15) rfl (by kernel_rfl) (by kernel_rfl) (by kernel_rfl) (by kernel_rfl) (fun _ _ _ h => h) (by assumption) (Or.inl ⟨by rfl, ?y15⟩) ?ry15
  case y15 => (intro w hSw; (try dsimp only at hSw); go_simp; try with_reducible rfl)
  try simp only [Act.put, List.setIfInBounds_toArray, List.set_cons_zero, List.set_cons_succ]
  refine AnyL.take (i := 16) (v := ?vy16) rfl (by kernel_rfl) (by kernel_rfl) (by kernel_rfl) (by kernel_rfl) (fun _ _ _ h => h) (by assumption) (Or.inl ⟨by rfl, ?y16⟩) ?ry16
  case y16 => (intro w hSw; (try dsimp only at hSw); go_simp; try with_reducible rfl)
  try simp only [Act.put, List.setIfInBounds_toArray, List.set_cons_zero, List.set_cons_succ]
  refine AnyL.take (i := 17) (v := ?vy17) rfl (by kernel_rfl) (by kernel_rfl) (by kernel_rfl) (by kernel_rfl) (fun _ _ _ h => h) (by assumption) (Or.inl ⟨by rfl, ?y17⟩) ?ry17
  case y17 => (intro w hSw; (try dsimp only at hSw); go_simp; try with_reducible rfl)
  try simp only [Act.put, List.setIfInBounds_toArray, List.set_cons_zero, List.set_cons_succ]
  refine AnyL.one (i := 18) (by kernel_rfl) rfl (fun K hK => ?_)
  refine step_append_lies _ (by rfl) _ _ 29 (by rfl) w.heap.size 5 i0 (.int .u8 0) 1 1 Try.underlying29 HI.out.1 HI.out.2.1 HI.out.2.2.1 HI.out.2.2.2 rfl (by decide) (.slice none 0 0) 0 [] (by rfl) ⟨rfl, .inl ⟨rfl, rfl⟩⟩ ⟨g, p, none⟩ m (cap - p) (nums .u8 ((B.drop p).take m)) (by rfl) (by rw [nums_len, Nat.mul_one, List.length_take, List.length_drop, HB.out]; omega) (fun j u hj => by
    rw [Addr.add_lit]
    have h1 := HC.out (p + j) u (by
      unfold nums at hj ⊢
      rw [List.getElem?_map, List.getElem?_take] at hj
      rw [List.getElem?_map]
      split at hj
      · rw [List.getElem?_drop] at hj
        exact hj
      · cases hj)
    rw [Addr.add_lit, Nat.zero_add] at h1
    exact h1) (nums_one _) hm0 (by unfold maxLen; omega) (by omega) (Nat.le_refl _) _ rfl ?_
  intro g6 cap6 w6 ho6 hg6 hat6 hlt6
  have hb6 : Below w.heap.size w w6 := (below_drew1 (Below.refl _ _)).grown hg6 (Nat.le_refl _) (fun k hk => by cases hk)
  have hS6 := (hb6.cell (p := ⟨R, 0, none⟩) hR).trans q1
  refine hK.out _ _ (.inr hS6) ?_
  clear hHeld hK K
  have hHeld := hS6
  rw [Nat.zero_add] at ho6 ⊢
  try simp only [Act.put, List.setIfInBounds_toArray, List.set_cons_zero, List.set_cons_succ]
  refine AnyL.take (i := 19) (v := ?vy19) rfl (by kernel_rfl) (by kernel_rfl) (by kernel_rfl) (by kernel_rfl) (fun _ _ _ h => h) (by assumption) (Or.inl ⟨by rfl, ?y19⟩) ?ry19
  case y19 => (intro w hSw; (try dsimp only at hSw); go_simp; try with_reducible rfl)
  try simp only [Act.put, List.setIfInBounds_toArray, List.set_cons_zero, List.set_cons_succ]
  refine AnyL.take (i := 20) (v := ?vy20) rfl (by kernel_rfl) (by kernel_rfl) (by kernel_rfl) (by kernel_rfl) (fun _ _ _ h => h) (by assumption) (Or.inl ⟨by rfl, ?y20⟩) ?ry20
  case y20 => (intro w hSw; (try dsimp only at hSw); go_simp; try with_reducible rfl)
  try simp only [Act.put, List.setIfInBounds_toArray, List.set_cons_zero, List.set_cons_succ]
  refine AnyL.done (by kernel_rfl) ?_ _
  have HO := Lib.hid ho6
  have HB6 := Lib.hid hb6
  clear ho6 hb6 hHeld hS6
  go_wp2_with fail
  go_ret2
  exact ⟨_, rfl, HO.out, HB6.out⟩
/-- The head of Cut's loop. -/
def RCRel (w0 : World) (base R n : Nat) (B : List Int) (Z : List Bool) (vB vZ : Value) (g : Nat) (wr : World) : Prop :=
  ∃ B' Z' vB' vZ', RefAt wr base R B' Z' vB' vZ' ∧ B'.length = Z'.length ∧ B'.length + g = n ∧ rcut 0 n B' = rcut 0 n B ∧ rcut false n Z' = rcut false n Z ∧ FrR w0 wr R vB vZ vB' vZ'
set_option maxHeartbeats 16000000 in
set_option maxRecDepth 1000000 in
theorem Rcut_calls (base R n : Nat) (B : List Int) (Z : List Bool) (vB vZ : Value) (w : World) (h : RefAt w base R B Z vB vZ) (hbase : base ≤ w.heap.size) (hl : B.length ≤ 65536) (hz : Z.length = B.length) (hn : n ≤ 65536) :
    Calls Try.prog 34 #[.pointer (some ⟨R, 0, none⟩), .int .i64 (n : Int)] w fun e w' => e = .returned (.int .i64 0) ∧ ∃ vB' vZ', RefAt w' base R (rcut 0 n B) (rcut false n Z) vB' vZ' ∧ FrR w w' R vB vZ vB' vZ' := by
  obtain ⟨q1, q2, f1, f2, hR⟩ := h.cells
  obtain ⟨A, c, rfl, hc, _⟩ := own_slice_form h.rb
  obtain ⟨A2, c2, rfl, hc2, _⟩ := own_slice_form h.rz
  obtain ⟨i0, hi0, hz0, hz1, hz2⟩ := info_parts infoU8
  obtain ⟨j0, hj0, hy0, hy1, hy2⟩ := info_parts infoB
  obtain ⟨m, hm⟩ : ∃ m, min B.length n = m := ⟨_, rfl⟩
  have hs1 := fun W => run_take1 29 5 A B.length c m Try.underlying29 hi0 hz1 (by omega) hc W
  have hs2 := fun W => run_take1 51 4 A2 Z.length c2 m Try.underlying51 hj0 hy1 (by omega) hc2 W
  have ho1 : w.ownsRow base 5 1 (.slice A m c) (B.take m).length (nums .u8 (B.take m)) := by
    have := own_take (k := m) h.rb (by omega)
    rw [List.length_take, Nat.min_eq_left (by omega), nums, List.map_take]
    exact this
  have ho2 : w.ownsRow base 4 1 (.slice A2 m c2) (Z.take m).length (bools (Z.take m)) := by
    have := own_take (k := m) h.rz (by omega)
    rw [List.length_take, Nat.min_eq_left (by omega), bools, List.map_take]
    exact this
  have hA1 := h.setB (w1 := w) ⟨rfl, rfl, rfl, Nat.le_refl _, fun _ _ _ => rfl⟩ ho1
  have hF1 := ((FrR.refl w R (.slice A B.length c) (.slice A2 Z.length c2)).growB (w2 := w) (vB2 := .slice A m c) ⟨rfl, rfl, rfl, Nat.le_refl _, fun _ _ _ => rfl⟩ (.inl (by cases A <;> rfl))).set 0 (.slice A m c)
  obtain ⟨wa, hwa⟩ : ∃ wa, w.setCell ⟨R, 0, none⟩ (.slice A m c) = wa := ⟨_, rfl⟩
  have ho2a : wa.ownsRow base 4 1 (.slice A2 m c2) (Z.take m).length (bools (Z.take m)) := by
    rw [← hwa]
    exact own_stay ho2 fun k hk => set_other _ (fun e => by subst e; exact own_ne_block ho2 h.head (by decide) hk)
  rw [hwa] at hA1 hF1
  have hA2 := hA1.setZ (w1 := wa) ⟨rfl, rfl, rfl, Nat.le_refl _, fun _ _ _ => rfl⟩ ho2a
  have hF2 := (hF1.growZ (w2 := wa) (vZ2 := .slice A2 m c2) ⟨rfl, rfl, rfl, Nat.le_refl _, fun _ _ _ => rfl⟩ (.inl (by cases A2 <;> rfl))).set 1 (.slice A2 m c2)
  obtain ⟨wb, hwb⟩ : ∃ wb, wa.setCell ⟨R, 1, none⟩ (.slice A2 m c2) = wb := ⟨_, rfl⟩
  rw [hwb] at hA2 hF2
  obtain ⟨q3, q4, f3, f4, _⟩ := hA1.cells
  have hR1 : rcut 0 n (B.take m) = rcut 0 n B := by rw [← hm]; exact rcut_take 0 n B
  have hR2 : rcut false n (Z.take m) = rcut false n Z := by rw [← hm, ← hz]; exact rcut_take false n Z
  have hmn : m ≤ n := by omega
  have hml : (B.take m).length = m := by rw [List.length_take]; omega
  have hml2 : (Z.take m).length = m := by rw [List.length_take]; omega
  have HA2 := Lib.hid hA2
  have HF2 := Lib.hid hF2
  have HR := Lib.hid (And.intro hR1 hR2)
  have HML := Lib.hid (And.intro hml hml2)
  have HI := Lib.hid (And.intro hi0 (And.intro hz0 (And.intro hz1 hz2)))
  have HJ := Lib.hid (And.intro hj0 (And.intro hy0 (And.intro hy1 hy2)))
  have HWA := Lib.hid hwa
  have HWB := Lib.hid hwb
  have d1 : decide ((n : Int) < 0) = false := by simp
  have d2 : decide ((65536 : Int) < (n : Int)) = false := by simp; omega
  have hif : (if (n : Int) < (B.length : Int) then (n : Int) else (B.length : Int)) = (m : Int) := by split <;> omega
  have hmi : min (B.length : Int) (n : Int) = (m : Int) := by omega
  have HH := Lib.hid h
  have HZ := Lib.hid hz
  have hmz : m ≤ Z.length := by omega
  have hmb : m ≤ B.length := by omega
  clear hz hA1 hA2 hF1 hF2 hR1 hR2 ho1 ho2 ho2a hml hml2 hm hi0 hz0 hz1 hz2 hj0 hy0 hy1 hy2 h
  go_enter Try.func34, Try.ntmps34
  go_wp2_with fail
  refine AnyL.start (fun w' => w'.cell? ⟨R, 0, none⟩ = some (.slice A B.length c) ∧ w'.frozen? ⟨R, 0, none⟩ = false) 15 (by kernel_rfl) ⟨q1, f1⟩ (fun hHeld => ?_)
  refine AnyL.take (i := 0) (v := ?vy0) rfl (by kernel_rfl) (by kernel_rfl) (by kernel_rfl) (by kernel_rfl) (fun _ _ _ h => h) (by assumption) (Or.inl ⟨by rfl, ?y0⟩) ?ry0
  case y0 => (intro w hSw; (try dsimp only at hSw); go_simp; try with_reducible rfl)
  try simp only [Act.put, List.setIfInBounds_toArray, List.set_cons_zero, List.set_cons_succ]
  refine AnyL.take (i := 1) (v := ?vy1) rfl (by kernel_rfl) (by kernel_rfl) (by kernel_rfl) (by kernel_rfl) (fun _ _ _ h => h) (by assumption) (Or.inl ⟨by rfl, ?y1⟩) ?ry1
  case y1 => (intro w hSw; (try dsimp only at hSw); go_simp; try with_reducible rfl)
  try simp only [Act.put, List.setIfInBounds_toArray, List.set_cons_zero, List.set_cons_succ]
  refine AnyL.take (i := 2) (v := ?vy2) rfl (by kernel_rfl) (by kernel_rfl) (by kernel_rfl) (by kernel_rfl) (fun _ _ _ h => h) (by assumption) (Or.inl ⟨by rfl, ?y2⟩) ?ry2
  case y2 => (intro w hSw; (try dsimp only at hSw); go_simp; try with_reducible rfl)
  try simp only [Act.put, List.setIfInBounds_toArray, List.set_cons_zero, List.set_cons_succ]
  refine AnyL.take (i := 3) (v := ?vy3) rfl (by kernel_rfl) (by kernel_rfl) (by kernel_rfl) (by kernel_rfl) (fun _ _ _ h => h) (by assumption) (Or.inl ⟨by rfl, ?y3⟩) ?ry3
  case y3 => (intro w hSw; (try dsimp only at hSw); go_simp; try with_reducible rfl)
  try simp only [Act.put, List.setIfInBounds_toArray, List.set_cons_zero, List.set_cons_succ]
  refine AnyL.take (i := 4) (v := ?vy4) rfl (by kernel_rfl) (by kernel_rfl) (by kernel_rfl) (by kernel_rfl) (fun _ _ _ h => h) (by assumption) (Or.inl ⟨by rfl, ?y4⟩) ?ry4
  case y4 => (intro w hSw; (try dsimp only at hSw); go_simp; try with_reducible rfl)
  try simp only [Act.put, List.setIfInBounds_toArray, List.set_cons_zero, List.set_cons_succ]
  refine AnyL.take (i := 5) (v := ?vy5) rfl (by kernel_rfl) (by kernel_rfl) (by kernel_rfl) (by kernel_rfl) (fun _ _ _ h => h) (by assumption) (Or.inl ⟨by rfl, ?y5⟩) ?ry5
  case y5 => (intro w hSw; (try dsimp only at hSw); go_simp; try with_reducible rfl)
  try simp only [Act.put, List.setIfInBounds_toArray, List.set_cons_zero, List.set_cons_succ]
  refine AnyL.take (i := 6) (v := ?vy6) rfl (by kernel_rfl) (by kernel_rfl) (by kernel_rfl) (by kernel_rfl) (fun _ _ _ h => h) (by assumption) (Or.inl ⟨by rfl, ?y6⟩) ?ry6
  case y6 => (intro w hSw; (try dsimp only at hSw); go_simp; try with_reducible rfl)
  try simp only [Act.put, List.setIfInBounds_toArray, List.set_cons_zero, List.set_cons_succ]
  refine AnyL.take (i := 7) (v := ?vy7) rfl (by kernel_rfl) (by kernel_rfl) (by kernel_rfl) (by kernel_rfl) (fun _ _ _ h => h) (by assumption) (Or.inl ⟨by rfl, ?y7⟩) ?ry7
  case y7 => (intro w hSw; (try dsimp only at hSw); go_simp; try with_reducible rfl)
  try simp only [Act.put, List.setIfInBounds_toArray, List.set_cons_zero, List.set_cons_succ]
  refine AnyL.take (i := 8) (v := ?vy8) rfl (by kernel_rfl) (by kernel_rfl) (by kernel_rfl) (by kernel_rfl) (fun _ _ _ h => h) (by assumption) (Or.inl ⟨by rfl, ?y8⟩) ?ry8
  case y8 => (intro w hSw; (try dsimp only at hSw); go_simp; try with_reducible rfl)
  try simp only [Act.put, List.setIfInBounds_toArray, List.set_cons_zero, List.set_cons_succ]
  refine AnyL.take (i := 9) (v := ?vy9) rfl (by kernel_rfl) (by kernel_rfl) (by kernel_rfl) (by kernel_rfl) (fun _ _ _ h => h) (by assumption) (Or.inl ⟨by rfl, ?y9⟩) ?ry9
  case y9 => (intro w hSw; (try dsimp only at hSw); go_simp; try with_reducible rfl)
  try simp only [Act.put, List.setIfInBounds_toArray, List.set_cons_zero, List.set_cons_succ]
  refine AnyL.take (i := 10) (v := ?vy10) rfl (by kernel_rfl) (by kernel_rfl) (by kernel_rfl) (by kernel_rfl) (fun _ _ _ h => h) (by assumption) (Or.inl ⟨by rfl, ?y10⟩) ?ry10
  case y10 => (intro w hSw; (try dsimp only at hSw); go_simp; try with_reducible rfl)
  try simp only [Act.put, List.setIfInBounds_toArray, List.set_cons_zero, List.set_cons_succ]
  refine AnyL.take (i := 11) (v := ?vy11) rfl (by kernel_rfl) (by kernel_rfl) (by kernel_rfl) (by kernel_rfl) (fun _ _ _ h => h) (by assumption) (Or.inl ⟨by rfl, ?y11⟩) ?ry11
  case y11 => (intro w hSw; (try dsimp only at hSw); go_simp; try with_reducible rfl)
  try simp only [Act.put, List.setIfInBounds_toArray, List.set_cons_zero, List.set_cons_succ]
  refine AnyL.take (i := 12) (v := ?vy12) rfl (by kernel_rfl) (by kernel_rfl) (by kernel_rfl) (by kernel_rfl) (fun _ _ _ h => h) (by assumption) (Or.inl ⟨by rfl, ?y12⟩) ?ry12
  case y12 => (intro w hSw; (try dsimp only at hSw); go_simp; try with_reducible rfl)
  try simp only [Act.put, List.setIfInBounds_toArray, List.set_cons_zero, List.set_cons_succ]
  refine AnyL.one (i := 13) (by kernel_rfl) rfl (fun K hK => ?_)
  go_simp
  refine hK.out _ _ (.inr hHeld) ?_
  clear hK K
  try simp only [Act.put, List.setIfInBounds_toArray, List.set_cons_zero, List.set_cons_succ]
  refine AnyL.take (i := 14) (v := ?vy14) rfl (by kernel_rfl) (by kernel_rfl) (by kernel_rfl) (by kernel_rfl) (fun _ _ _ h => h) (by assumption) (Or.inl ⟨by rfl, ?y14⟩) ?ry14
  case y14 => (intro w hSw; (try dsimp only at hSw); go_simp; try with_reducible rfl)
  try simp only [Act.put, List.setIfInBounds_toArray, List.set_cons_zero, List.set_cons_succ]
  refine AnyL.one (i := 15) (by kernel_rfl) rfl (fun K hK => ?_)
  go_simp
  refine hK.out _ _ (.inl rfl) ?_
  clear hHeld hK K
  refine AnyL.done (by kernel_rfl) ?_ _
  clear hwa f1 f2 q1 q2 hs1
  go_wp2_with fail
  refine AnyL.start (fun w' => w'.cell? ⟨R, 0, none⟩ = some (.slice A m c) ∧ w'.cell? ⟨R, 1, none⟩ = some (.slice A2 Z.length c2) ∧ w'.frozen? ⟨R, 1, none⟩ = false) 13 (by kernel_rfl) ⟨q3, q4, f4⟩ (fun hHeld => ?_)
  refine AnyL.take (i := 0) (v := ?vz0) rfl (by kernel_rfl) (by kernel_rfl) (by kernel_rfl) (by kernel_rfl) (fun _ _ _ h => h) (by assumption) (Or.inl ⟨by rfl, ?z0⟩) ?rz0
  case z0 => (intro w hSw; (try dsimp only at hSw); go_simp; try with_reducible rfl)
  try simp only [Act.put, List.setIfInBounds_toArray, List.set_cons_zero, List.set_cons_succ]
  refine AnyL.take (i := 1) (v := ?vz1) rfl (by kernel_rfl) (by kernel_rfl) (by kernel_rfl) (by kernel_rfl) (fun _ _ _ h => h) (by assumption) (Or.inl ⟨by rfl, ?z1⟩) ?rz1
  case z1 => (intro w hSw; (try dsimp only at hSw); go_simp; try with_reducible rfl)
  try simp only [Act.put, List.setIfInBounds_toArray, List.set_cons_zero, List.set_cons_succ]
  refine AnyL.take (i := 2) (v := ?vz2) rfl (by kernel_rfl) (by kernel_rfl) (by kernel_rfl) (by kernel_rfl) (fun _ _ _ h => h) (by assumption) (Or.inl ⟨by rfl, ?z2⟩) ?rz2
  case z2 => (intro w hSw; (try dsimp only at hSw); go_simp; try with_reducible rfl)
  try simp only [Act.put, List.setIfInBounds_toArray, List.set_cons_zero, List.set_cons_succ]
  refine AnyL.take (i := 3) (v := ?vz3) rfl (by kernel_rfl) (by kernel_rfl) (by kernel_rfl) (by kernel_rfl) (fun _ _ _ h => h) (by assumption) (Or.inl ⟨by rfl, ?z3⟩) ?rz3
  case z3 => (intro w hSw; (try dsimp only at hSw); go_simp; try with_reducible rfl)
  try simp only [Act.put, List.setIfInBounds_toArray, List.set_cons_zero, List.set_cons_succ]
  refine AnyL.take (i := 4) (v := ?vz4) rfl (by kernel_rfl) (by kernel_rfl) (by kernel_rfl) (by kernel_rfl) (fun _ _ _ h => h) (by assumption) (Or.inl ⟨by rfl, ?z4⟩) ?rz4
  case z4 => (intro w hSw; (try dsimp only at hSw); go_simp; try with_reducible rfl)
  try simp only [Act.put, List.setIfInBounds_toArray, List.set_cons_zero, List.set_cons_succ]
  refine AnyL.take (i := 5) (v := ?vz5) rfl (by kernel_rfl) (by kernel_rfl) (by kernel_rfl) (by kernel_rfl) (fun _ _ _ h => h) (by assumption) (Or.inl ⟨by rfl, ?z5⟩) ?rz5
  case z5 => (intro w hSw; (try dsimp only at hSw); go_simp; try with_reducible rfl)
  try simp only [Act.put, List.setIfInBounds_toArray, List.set_cons_zero, List.set_cons_succ]
  refine AnyL.take (i := 6) (v := ?vz6) rfl (by kernel_rfl) (by kernel_rfl) (by kernel_rfl) (by kernel_rfl) (fun _ _ _ h => h) (by assumption) (Or.inl ⟨by rfl, ?z6⟩) ?rz6
  case z6 => (intro w hSw; (try dsimp only at hSw); go_simp; try with_reducible rfl)
  try simp only [Act.put, List.setIfInBounds_toArray, List.set_cons_zero, List.set_cons_succ]
  refine AnyL.take (i := 7) (v := ?vz7) rfl (by kernel_rfl) (by kernel_rfl) (by kernel_rfl) (by kernel_rfl) (fun _ _ _ h => h) (by assumption) (Or.inl ⟨by rfl, ?z7⟩) ?rz7
  case z7 => (intro w hSw; (try dsimp only at hSw); go_simp; try with_reducible rfl)
  try simp only [Act.put, List.setIfInBounds_toArray, List.set_cons_zero, List.set_cons_succ]
  refine AnyL.take (i := 8) (v := ?vz8) rfl (by kernel_rfl) (by kernel_rfl) (by kernel_rfl) (by kernel_rfl) (fun _ _ _ h => h) (by assumption) (Or.inl ⟨by rfl, ?z8⟩) ?rz8
  case z8 => (intro w hSw; (try dsimp only at hSw); go_simp; try with_reducible rfl)
  try simp only [Act.put, List.setIfInBounds_toArray, List.set_cons_zero, List.set_cons_succ]
  refine AnyL.take (i := 9) (v := ?vz9) rfl (by kernel_rfl) (by kernel_rfl) (by kernel_rfl) (by kernel_rfl) (fun _ _ _ h => h) (by assumption) (Or.inl ⟨by rfl, ?z9⟩) ?rz9
  case z9 => (intro w hSw; (try dsimp only at hSw); go_simp; try with_reducible rfl)
  try simp only [Act.put, List.setIfInBounds_toArray, List.set_cons_zero, List.set_cons_succ]
  refine AnyL.take (i := 10) (v := ?vz10) rfl (by kernel_rfl) (by kernel_rfl) (by kernel_rfl) (by kernel_rfl) (fun _ _ _ h => h) (by assumption) (Or.inl ⟨by rfl, ?z10⟩) ?rz10
  case z10 => (intro w hSw; (try dsimp only at hSw); go_simp; try with_reducible rfl)
  try simp only [Act.put, List.setIfInBounds_toArray, List.set_cons_zero, List.set_cons_succ]
  refine AnyL.one (i := 11) (by kernel_rfl) rfl (fun K hK => ?_)
  go_simp
  refine hK.out _ _ (.inr hHeld) ?_
  clear hK K
  try simp only [Act.put, List.setIfInBounds_toArray, List.set_cons_zero, List.set_cons_succ]
  refine AnyL.take (i := 12) (v := ?vz12) rfl (by kernel_rfl) (by kernel_rfl) (by kernel_rfl) (by kernel_rfl) (fun _ _ _ h => h) (by assumption) (Or.inl ⟨by rfl, ?z12⟩) ?rz12
  case z12 => (intro w hSw; (try dsimp only at hSw); go_simp; try with_reducible rfl)
  try simp only [Act.put, List.setIfInBounds_toArray, List.set_cons_zero, List.set_cons_succ]
  refine AnyL.one (i := 13) (by kernel_rfl) rfl (fun K hK => ?_)
  go_simp
  refine hK.out _ _ (.inl rfl) ?_
  clear hHeld hK K
  refine AnyL.done (by kernel_rfl) ?_ _
  clear hwb q3 q4 f3 f4 hs2 hif hmi
  go_wp2_with fail
  go_loopg [] (n - m) (fun g wr => RCRel w base R n B Z (.slice A B.length c) (.slice A2 Z.length c2) g wr)
  case atStart => exact ⟨_, _, _, _, HA2.out.drew.drew, by rw [HML.out.1, HML.out.2], by rw [HML.out.1]; omega, HR.out.1, HR.out.2, HF2.out.drew.drew⟩
  case round =>
    obtain ⟨B', Z', vB', vZ', hra, hlen, hlg, hr1, hr2, hfr⟩ := hrel
    obtain ⟨q1, q2, f1, f2, hRr⟩ := hra.cells
    obtain ⟨A', c', rfl, hc', _⟩ := own_slice_form hra.rb
    obtain ⟨A2', c2', rfl, hc2', _⟩ := own_slice_form hra.rz
    have HRA := Lib.hid hra
    have HLEN := Lib.hid hlen
    have HLG := Lib.hid hlg
    have HR1 := Lib.hid hr1
    have HR2 := Lib.hid hr2
    have HFR := Lib.hid hfr
    clear hra hr1 hr2 hfr hlen
    by_cases hlt : B'.length < n
    · have d3 : decide ((B'.length : Int) < (n : Int)) = true := by simp; omega
      have hbs := Nat.le_trans hbase HFR.out.size
      have hown := HRA.out.rb.alloc (.cells #[.int .u8 0] 5)
      have hnew := heap_alloc_new wr (.cells #[.int .u8 0] 5)
      have HOWN := Lib.hid hown
      have HNEW := Lib.hid hnew
      clear hown hnew
      go_wp2_with (at_builtin; refine wpList_append_own_at _ rfl _ _ 29 rfl base 5 i0 (.int .u8 0) 1 1 Try.underlying29 HI.out.1 HI.out.2.1 HI.out.2.2.1 HI.out.2.2.2 rfl (by decide) _ _ _ rfl HOWN.out ⟨wr.heap.size, 0, none⟩ 1 1 [.int .u8 0] rfl rfl (World.news_of_block HNEW.out) (fun u hu => by rw [List.mem_singleton.1 hu]; rfl) (by unfold maxLen; omega) (by omega) (by simp; omega) ?_)
      intro v2 w2 ho2 hg2 _ hat2
      obtain ⟨A3, c3, rfl, _, _⟩ := own_slice_form ho2
      have hbv : Below wr.heap.size wr (wr.alloc (.cells #[.int .u8 0] 5)) := (Below.refl _ _).alloc (Nat.le_refl _) _
      have hrv := HRA.out.below hbv
      have hR2 : w2.heap[R]? = some (.cells #[.slice A' B'.length c', .slice A2' Z'.length c2'] 53 (0, 0)) := (hg2.block R hrv.cells.2.2.2.2 (fun e => own_ne_block hrv.rb hrv.head (by decide) e.symm)).trans hrv.head
      have ho3 : w2.ownsRow base 5 1 (.slice A3 (B'.length + 1) c3) (B' ++ [0]).length (nums .u8 (B' ++ [0])) := by
        rw [List.length_append, List.length_singleton, nums, List.map_append]
        exact ho2
      have hra3 := hrv.setB hg2 ho3
      have hf3 := ((HFR.out.below hbv).growB hg2 (by
        rcases hat2 with e | e
        · exact .inl e
        · exact .inr (.inr ⟨_, e, by simp⟩))).set 0 (.slice A3 (B'.length + 1) c3)
      have g1 : w2.cell? ⟨R, 0, none⟩ = some (.slice A' B'.length c') := by rw [Lib.cell_of_heap hR2]; rfl
      have g2 : w2.frozen? ⟨R, 0, none⟩ = false := Lib.frozen_of_heap hR2 0
      obtain ⟨w3, hw3⟩ : ∃ w3, w2.setCell ⟨R, 0, none⟩ (.slice A3 (B'.length + 1) c3) = w3 := ⟨_, rfl⟩
      rw [hw3] at hra3 hf3
      obtain ⟨q3, q4, f3, f4, _⟩ := hra3.cells
      have HRA3 := Lib.hid hra3
      have HF3 := Lib.hid hf3
      have hbs3 : base ≤ w3.heap.size := Nat.le_trans hbase hf3.size
      have hown := hra3.rz.alloc (.cells #[.bool false] 4)
      have hnew := heap_alloc_new w3 (.cells #[.bool false] 4)
      have HOWN3 := Lib.hid hown
      have HNEW3 := Lib.hid hnew
      have hzl : Z'.length < 65536 := by have := HLEN.out; omega
      clear hown hnew hra3 hf3 ho3 ho2 hg2 hat2 hR2 hrv hbv q1 q2 f1 f2 HOWN HNEW
      go_wp2_with (at_builtin; refine wpList_append_own_at _ rfl _ _ 51 rfl base 4 j0 (.bool false) 1 1 Try.underlying51 HJ.out.1 HJ.out.2.1 HJ.out.2.2.1 HJ.out.2.2.2 rfl (by decide) _ _ _ rfl HOWN3.out ⟨w3.heap.size, 0, none⟩ 1 1 [.bool false] rfl rfl (World.news_of_block HNEW3.out) (fun u hu => by rw [List.mem_singleton.1 hu]; rfl) (by unfold maxLen; omega) (by omega) (by simp; omega) ?_)
      intro v4 w4 ho4 hg4 _ hat4
      obtain ⟨A4, c4, rfl, _, _⟩ := own_slice_form ho4
      have hbv : Below w3.heap.size w3 (w3.alloc (.cells #[.bool false] 4)) := (Below.refl _ _).alloc (Nat.le_refl _) _
      have hrv := HRA3.out.below hbv
      have hR4 : w4.heap[R]? = some (.cells #[.slice A3 (B'.length + 1) c3, .slice A2' Z'.length c2'] 53 (0, 0)) := (hg4.block R hrv.cells.2.2.2.2 (fun e => own_ne_block hrv.rz hrv.head (by decide) e.symm)).trans hrv.head
      have ho5 : w4.ownsRow base 4 1 (.slice A4 (Z'.length + 1) c4) (Z' ++ [false]).length (bools (Z' ++ [false])) := by
        rw [List.length_append, List.length_singleton, bools, List.map_append]
        exact ho4
      have hra5 := hrv.setZ hg4 ho5
      have hf5 := ((HF3.out.below hbv).growZ hg4 (by
        rcases hat4 with e | e
        · exact .inl e
        · exact .inr (.inr ⟨_, e, by simp⟩))).set 1 (.slice A4 (Z'.length + 1) c4)
      have g3 : w4.cell? ⟨R, 1, none⟩ = some (.slice A2' Z'.length c2') := by rw [Lib.cell_of_heap hR4]; rfl
      have g4 : w4.frozen? ⟨R, 1, none⟩ = false := Lib.frozen_of_heap hR4 1
      obtain ⟨w5, hw5⟩ : ∃ w5, w4.setCell ⟨R, 1, none⟩ (.slice A4 (Z'.length + 1) c4) = w5 := ⟨_, rfl⟩
      rw [hw5] at hra5 hf5
      have HRA5 := Lib.hid hra5
      have HF5 := Lib.hid hf5
      clear hra5 hf5 ho5 ho4 hg4 hat4 hR4 hrv hbv hw3 q3 q4 f3 f4 g1 g2
      go_wp2_with fail
      go_roundg (gk - 1)
      case measure => omega
      case rel => exact ⟨B' ++ [0], Z' ++ [false], _, _, HRA5.out, by rw [List.length_append, List.length_append, HLEN.out]; rfl, by rw [List.length_append, List.length_singleton]; omega, by rw [rcut_snoc _ _ _ hlt]; exact HR1.out, by rw [rcut_snoc _ _ _ (by have := HLEN.out; omega)]; exact HR2.out, HF5.out⟩
    · have d3 : decide ((B'.length : Int) < (n : Int)) = false := by simp; omega
      have e1 : B' = rcut 0 n B := by rw [← HR1.out]; exact (rcut_full _ _ _ (by omega)).symm
      have e2 : Z' = rcut false n Z := by rw [← HR2.out]; exact (rcut_full _ _ _ (by have := HLEN.out; omega)).symm
      have hfin := HRA.out
      have hB'n : B'.length = n := by omega
      have HFIN : Hid (RefAt wr base R (rcut 0 n B) (rcut false n Z) (.slice A' B'.length c') (.slice A2' Z'.length c2')) := by
        have h3 := hfin
        rw [← e1, ← e2]
        exact Lib.hid h3
      clear hfin e1 e2 hB'n hlg
      go_wp2_with fail
      go_ret
      exact ⟨rfl, _, _, HFIN.out, HFR.out⟩
theorem rgrow_length {α : Type} (d : α) (n : Nat) (l : List α) : (rgrow d n l).length = max l.length n := by
  unfold rgrow
  split
  · rw [rcut_length]; omega
  · omega
/-- The head of Write's loop. -/
def RWRel (w0 : World) (base R p n : Nat) (bs B1 : List Int) (Z1 : List Bool) (vB vZ vB1 vZ1 : Value) (g : Nat) (v : Value) (wr : World) : Prop :=
  ∃ i : Nat, v = .int .i64 (i : Int) ∧ i + g = n ∧ RefAt wr base R (rput p (bs.take i) B1) (rput p ((List.replicate n true).take i) Z1) vB1 vZ1 ∧ FrR w0 wr R vB vZ vB1 vZ1
set_option maxHeartbeats 16000000 in
set_option maxRecDepth 1000000 in
theorem Rwrite_calls (base R p : Nat) (A : Option Addr) (c : Nat) (bs : List Int) (B : List Int) (Z : List Bool) (vB vZ : Value) (w : World) (h : RefAt w base R B Z vB vZ) (hbase : base ≤ w.heap.size) (hl : B.length ≤ 65536) (hz : Z.length = B.length)
    (hR : BA w A c bs) (hA : ∀ g o, A = some ⟨g, o, none⟩ → g < base) (h0 : 0 < bs.length) (hp : p + bs.length ≤ 65536) (hbR : base ≤ R) :
    Calls Try.prog 33 #[.pointer (some ⟨R, 0, none⟩), .int .i64 (p : Int), .slice A bs.length c] w fun e w' => e = .returned (.int .i64 0) ∧ ∃ vB' vZ', RefAt w' base R (rput p bs (rgrow 0 (p + bs.length) B)) (rput p (List.replicate bs.length true) (rgrow false (p + bs.length) Z)) vB' vZ' ∧ FrR w w' R vB vZ vB' vZ' := by
  obtain ⟨q1, q2, f1, f2, hRl⟩ := h.cells
  obtain ⟨gb, ob, rfl, hgb, hcb⟩ := hR.2 h0
  have hgbase := hA gb ob rfl
  obtain ⟨n, hn⟩ : ∃ n, bs.length = n := ⟨_, rfl⟩
  rw [hn] at h0 hp ⊢
  have c1 := Rcut_calls base R (p + n) B Z vB vZ w h hbase hl hz hp
  obtain ⟨AB, cB, rfl, hcB, _⟩ := own_slice_form h.rb
  have hHB : ∀ k, (Value.slice AB B.length cB).ownBlock = some k → base ≤ k := fun k hk => (h.rb.lt k hk).1
  have hHZ : ∀ k, vZ.ownBlock = some k → base ≤ k := fun k hk => (h.rz.lt k hk).1
  have HHB := Lib.hid hHB
  have HHZ := Lib.hid hHZ
  have HN := Lib.hid hn
  have HCB := Lib.hid hcb
  have HZ := Lib.hid hz
  have C1 := Lib.hid c1
  have HH := Lib.hid h
  have d1 : decide ((p : Int) < 0) = false := by simp
  have d2 : ((n : Int) == 0) = false := by simp; omega
  have d3 : decide ((65536 : Int) < (p : Int)) = false := by simp; omega
  have d4 : decide ((65536 : Int) < (p : Int) + (n : Int)) = false := by simp; omega
  clear hn hcb hz c1 h hR hA hHB hHZ
  go_enter Try.func33, Try.ntmps33
  go_upto_if 31 with fail
  go_cut [] (fun wx => ∃ vB' vZ', RefAt wx base R (rgrow 0 (p + n) B) (rgrow false (p + n) Z) vB' vZ' ∧ FrR w wx R (.slice AB B.length cB) vZ vB' vZ')
  case first =>
    by_cases hlt : B.length < p + n
    · have hi : (B.length : Int) < (p : Int) + (n : Int) := by omega
      have e1 : rgrow 0 (p + n) B = rcut 0 (p + n) B := by unfold rgrow; rw [if_pos hlt]
      have e2 : rgrow false (p + n) Z = rcut false (p + n) Z := by unfold rgrow; rw [if_pos (by rw [HZ.out]; exact hlt)]
      have HE := Lib.hid (And.intro e1 e2)
      clear e1 e2
      go_wp2_with fail
      refine (C1.out).mono ?_
      rintro e w1 ⟨rfl, vB', vZ', hra, hfr⟩
      have HR1 := Lib.hid (And.intro hra hfr)
      clear hra hfr
      go_wp2_with fail
      go_meet
      rw [HE.out.1, HE.out.2]
      exact ⟨vB', vZ', HR1.out⟩
    · have hi : (p : Int) + (n : Int) ≤ (B.length : Int) := by omega
      go_wp2_with fail
      go_meet
      have e1 : rgrow 0 (p + n) B = B := by unfold rgrow; rw [if_neg hlt]
      have e2 : rgrow false (p + n) Z = Z := by unfold rgrow; rw [if_neg (by rw [HZ.out]; exact hlt)]
      rw [e1, e2]
      exact ⟨_, _, HH.out, FrR.refl _ _ _ _⟩
  case rest =>
    obtain ⟨vB1, vZ1, hra, hfr⟩ := hcut
    have hBl : p + n ≤ (rgrow 0 (p + n) B).length := by rw [rgrow_length]; omega
    have hZl : p + n ≤ (rgrow false (p + n) Z).length := by rw [rgrow_length]; omega
    have hBu : (rgrow 0 (p + n) B).length ≤ 65536 := by rw [rgrow_length]; omega
    have hZu : (rgrow false (p + n) Z).length ≤ 65536 := by rw [rgrow_length, HZ.out]; omega
    obtain ⟨gB, kB, rfl, hgB1, _⟩ := hra.rb.form (by omega)
    obtain ⟨gZ, kZ, rfl, hgZ1, _⟩ := hra.rz.form (by omega)
    obtain ⟨B1, hB1⟩ : ∃ B1, rgrow 0 (p + n) B = B1 := ⟨_, rfl⟩
    obtain ⟨Z1, hZ1⟩ : ∃ Z1, rgrow false (p + n) Z = Z1 := ⟨_, rfl⟩
    rw [hB1] at hra hfr hBl hBu
    rw [hZ1] at hra hfr hZl hZu
    have HB1 := Lib.hid hB1
    have HZ1 := Lib.hid hZ1
    clear hB1 hZ1
    obtain ⟨bl, hbl⟩ : ∃ bl, B1.length = bl := ⟨_, rfl⟩
    obtain ⟨zl, hzl⟩ : ∃ zl, Z1.length = zl := ⟨_, rfl⟩
    rw [hbl] at hra hfr hBl hBu
    rw [hzl] at hra hfr hZl hZu
    have HBL := Lib.hid hbl
    have HZL := Lib.hid hzl
    have HRA := Lib.hid hra
    have HFR := Lib.hid hfr
    clear hra hfr q1 q2 f1 f2 C1 HH hbl hzl
    go_wp2_with fail
    go_loopg [7] n (fun g v wr => RWRel w base R p n bs B1 Z1 (.slice AB B.length cB) vZ (.slice (some ⟨gB, 0, none⟩) bl kB) (.slice (some ⟨gZ, 0, none⟩) zl kZ) g v wr)
    case atStart => exact ⟨0, rfl, Nat.zero_add _, by rw [List.take_zero, List.take_zero, rput_nil, rput_nil]; exact HRA.out, HFR.out⟩
    case round =>
      obtain ⟨i, rfl, hig, hra, hfr⟩ := hrel
      obtain ⟨q1, q2, f1, f2, hRr⟩ := hra.cells
      have HRA2 := Lib.hid hra
      have HFR2 := Lib.hid hfr
      have HIG := Lib.hid hig
      by_cases hin : i < n
      · have d5 : decide ((i : Int) < (n : Int)) = true := by simp; omega
        have i1 : (i : Int) < (n : Int) := by omega
        obtain ⟨b, hb⟩ : ∃ b, bs[i]? = some b := ⟨_, List.getElem?_eq_getElem (by rw [HN.out]; exact hin)⟩
        have hgw : gb < w.heap.size := hgb
        have q3 : wr.cell? ⟨gb, ob + i, none⟩ = some (.int .u8 b) := by
          have h1 := HCB.out i (.int .u8 b) (by unfold nums; rw [List.getElem?_map, hb]; rfl)
          rw [Addr.add_lit] at h1
          rw [← h1]
          refine World.cell?_of_block (a := ⟨gb, ob + i, none⟩) (hfr.block gb hgw (by omega) (fun e => ?_) (fun e => ?_))
          · have := HHB.out gb e
            omega
          · have := HHZ.out gb e
            omega
        have hl1 : (rput p (bs.take i) B1).length = bl := by rw [rput_length (by rw [List.length_take, HBL.out]; omega)]; exact HBL.out
        have hl2 : (rput p ((List.replicate n true).take i) Z1).length = zl := by rw [rput_length (by rw [List.length_take, HZL.out]; omega)]; exact HZL.out
        have hrb := hra.rb
        have hrz := hra.rz
        rw [hl1] at hrb
        rw [hl2] at hrz
        obtain ⟨ub, hub⟩ : ∃ ub, (nums .u8 (rput p (bs.take i) B1))[p + i]? = some ub := ⟨_, List.getElem?_eq_getElem (by rw [nums_len, hl1]; omega)⟩
        have q4 : wr.cell? ⟨gB, p + i, none⟩ = some ub := (hrb.cellAt (p + i) (by omega)).trans hub
        have f4 : wr.frozen? ⟨gB, p + i, none⟩ = false := hrb.frozenAt (p + i)
        have hra3 := hra.putB hl1.symm (p + i) b
        rw [rput_step p bs B1 i b hb (by rw [HBL.out]; omega)] at hra3
        have hf3 := hfr.putB (j := p + i) (v := .int .u8 b)
        obtain ⟨w3, hw3⟩ : ∃ w3, wr.setCell ⟨gB, p + i, none⟩ (.int .u8 b) = w3 := ⟨_, rfl⟩
        rw [hw3] at hra3 hf3
        obtain ⟨q5, q6, _, _, _⟩ := hra3.cells
        have hrz3 := hra3.rz
        rw [hl2] at hrz3
        obtain ⟨uz, huz⟩ : ∃ uz, (bools (rput p ((List.replicate n true).take i) Z1))[p + i]? = some uz := ⟨_, List.getElem?_eq_getElem (by rw [bools_len, hl2]; omega)⟩
        have q7 : w3.cell? ⟨gZ, p + i, none⟩ = some uz := (hrz3.cellAt (p + i) (by omega)).trans huz
        have f7 : w3.frozen? ⟨gZ, p + i, none⟩ = false := hrz3.frozenAt (p + i)
        have hra5 := hra3.putZ hl2.symm (p + i) true
        rw [rput_step p (List.replicate n true) Z1 i true (by rw [List.getElem?_replicate, if_pos hin]) (by rw [HZL.out]; omega)] at hra5
        have hf5 := hf3.putZ (j := p + i) (v := .bool true)
        have HRA5 := Lib.hid hra5
        have HF5 := Lib.hid hf5
        have i2 : (0 : Int) ≤ (p : Int) + (i : Int) := by omega
        have i3 : (p : Int) + (i : Int) < (bl : Int) := by omega
        have i4 : (p : Int) + (i : Int) < (zl : Int) := by omega
        have w2e : IntKind.i64.wrap ((p : Int) + (i : Int)) = (p : Int) + (i : Int) := wrap_small _ (by omega) (by omega)
        have i5 : ((p : Int) + (i : Int)).toNat = p + i := by omega
        clear hra hfr hb hub huz hra3 hf3 hra5 hf5 hrb hrz hrz3 hl1 hl2 hig
        go_wp2_with fail
        refine AnyL.start (fun w' => w'.cell? ⟨R, 0, none⟩ = some (.slice (some ⟨gB, 0, none⟩) bl kB) ∧ w'.cell? ⟨gb, ob + i, none⟩ = some (.int .u8 b)) 12 (by kernel_rfl) ⟨q1, q3⟩ (fun hHeld => ?_)
        refine AnyL.take (i := 0) (v := ?vy0) rfl (by kernel_rfl) (by kernel_rfl) (by kernel_rfl) (by kernel_rfl) (fun _ _ _ h => h) (by assumption) (Or.inl ⟨by rfl, ?y0⟩) ?ry0
        case y0 => (intro w hSw; (try dsimp only at hSw); go_simp; try with_reducible rfl)
        try simp only [Act.put, List.setIfInBounds_toArray, List.set_cons_zero, List.set_cons_succ]
        refine AnyL.take (i := 1) (v := ?vy1) rfl (by kernel_rfl) (by kernel_rfl) (by kernel_rfl) (by kernel_rfl) (fun _ _ _ h => h) (by assumption) (Or.inl ⟨by rfl, ?y1⟩) ?ry1
        case y1 => (intro w hSw; (try dsimp only at hSw); go_simp; try with_reducible rfl)
        try simp only [Act.put, List.setIfInBounds_toArray, List.set_cons_zero, List.set_cons_succ]
        refine AnyL.take (i := 2) (v := ?vy2) rfl (by kernel_rfl) (by kernel_rfl) (by kernel_rfl) (by kernel_rfl) (fun _ _ _ h => h) (by assumption) (Or.inl ⟨by rfl, ?y2⟩) ?ry2
        case y2 => (intro w hSw; (try dsimp only at hSw); go_simp; try with_reducible rfl)
        try simp only [Act.put, List.setIfInBounds_toArray, List.set_cons_zero, List.set_cons_succ]
        refine AnyL.take (i := 3) (v := ?vy3) rfl (by kernel_rfl) (by kernel_rfl) (by kernel_rfl) (by kernel_rfl) (fun _ _ _ h => h) (by assumption) (Or.inl ⟨by rfl, ?y3⟩) ?ry3
        case y3 => (intro w hSw; (try dsimp only at hSw); go_simp; try with_reducible rfl)
        try simp only [Act.put, List.setIfInBounds_toArray, List.set_cons_zero, List.set_cons_succ]
        refine AnyL.take (i := 4) (v := ?vy4) rfl (by kernel_rfl) (by kernel_rfl) (by kernel_rfl) (by kernel_rfl) (fun _ _ _ h => h) (by assumption) (Or.inl ⟨by rfl, ?y4⟩) ?ry4
        case y4 => (intro w hSw; (try dsimp only at hSw); go_simp; try with_reducible rfl)
        try simp only [Act.put, List.setIfInBounds_toArray, List.set_cons_zero, List.set_cons_succ]
        refine AnyL.take (i := 5) (v := ?vy5) rfl (by kernel_rfl) (by kernel_rfl) (by kernel_rfl) (by kernel_rfl) (fun _ _ _ h => h) (by assumption) (Or.inl ⟨by rfl, ?y5⟩) ?ry5
        case y5 => (intro w hSw; (try dsimp only at hSw); go_simp; try with_reducible rfl)
        try simp only [Act.put, List.setIfInBounds_toArray, List.set_cons_zero, List.set_cons_succ]
        refine AnyL.take (i := 6) (v := ?vy6) rfl (by kernel_rfl) (by kernel_rfl) (by kernel_rfl) (by kernel_rfl) (fun _ _ _ h => h) (by assumption) (Or.inl ⟨by rfl, ?y6⟩) ?ry6
        case y6 => (intro w hSw; (try dsimp only at hSw); go_simp; try with_reducible rfl)
        try simp only [Act.put, List.setIfInBounds_toArray, List.set_cons_zero, List.set_cons_succ]
        refine AnyL.take (i := 7) (v := ?vy7) rfl (by kernel_rfl) (by kernel_rfl) (by kernel_rfl) (by kernel_rfl) (fun _ _ _ h => h) (by assumption) (Or.inl ⟨by rfl, ?y7⟩) ?ry7
        case y7 => (intro w hSw; (try dsimp only at hSw); go_simp; try with_reducible rfl)
        try simp only [Act.put, List.setIfInBounds_toArray, List.set_cons_zero, List.set_cons_succ]
        refine AnyL.take (i := 8) (v := ?vy8) rfl (by kernel_rfl) (by kernel_rfl) (by kernel_rfl) (by kernel_rfl) (fun _ _ _ h => h) (by assumption) (Or.inl ⟨by rfl, ?y8⟩) ?ry8
        case y8 => (intro w hSw; (try dsimp only at hSw); go_simp; try with_reducible rfl)
        try simp only [Act.put, List.setIfInBounds_toArray, List.set_cons_zero, List.set_cons_succ]
        refine AnyL.take (i := 9) (v := ?vy9) rfl (by kernel_rfl) (by kernel_rfl) (by kernel_rfl) (by kernel_rfl) (fun _ _ _ h => h) (by assumption) (Or.inl ⟨by rfl, ?y9⟩) ?ry9
        case y9 => (intro w hSw; (try dsimp only at hSw); go_simp; try with_reducible rfl)
        try simp only [Act.put, List.setIfInBounds_toArray, List.set_cons_zero, List.set_cons_succ]
        refine AnyL.take (i := 10) (v := ?vy10) rfl (by kernel_rfl) (by kernel_rfl) (by kernel_rfl) (by kernel_rfl) (fun _ _ _ h => h) (by assumption) (Or.inl ⟨by rfl, ?y10⟩) ?ry10
        case y10 => (intro w hSw; (try dsimp only at hSw); go_simp; try with_reducible rfl)
        try simp only [Act.put, List.setIfInBounds_toArray, List.set_cons_zero, List.set_cons_succ]
        refine AnyL.take (i := 11) (v := ?vy11) rfl (by kernel_rfl) (by kernel_rfl) (by kernel_rfl) (by kernel_rfl) (fun _ _ _ h => h) (by assumption) (Or.inl ⟨by rfl, ?y11⟩) ?ry11
        case y11 => (intro w hSw; (try dsimp only at hSw); go_simp; try with_reducible rfl)
        try simp only [Act.put, List.setIfInBounds_toArray, List.set_cons_zero, List.set_cons_succ]
        refine AnyL.one (i := 12) (by kernel_rfl) rfl (fun K hK => ?_)
        go_simp
        refine hK.out _ _ (.inl rfl) ?_
        clear hHeld hK K
        refine AnyL.done (by kernel_rfl) ?_ _
        clear hw3 q1 q2 q3 q4 f1 f2 f4
        have HD5 := Lib.hid (And.intro HRA5.out.drew HF5.out.drew)
        go_wp2_with fail
        go_roundg (gk - 1)
        case measure => have := HIG.out; omega
        case rel => exact ⟨i + 1, by rw [Int.natCast_succ], by have := HIG.out; omega, HD5.out.1, HD5.out.2⟩
      · have hin2 : i = n := by omega
        subst hin2
        have d5 : decide ((i : Int) < (i : Int)) = false := by simp
        have e1 : bs.take i = bs := List.take_of_length_le (by rw [HN.out]; exact Nat.le_refl _)
        have e2 : (List.replicate i true).take i = List.replicate i true := List.take_of_length_le (by simp)
        rw [e1, e2] at hra
        have HFIN := Lib.hid hra
        clear e1 e2 hra hfr q1 q2 f1 f2 HRA2
        go_wp2_with fail
        go_ret
        rw [HB1.out, HZ1.out]
        exact ⟨rfl, _, _, HFIN.out, HFR2.out⟩
end Go.Proofs.Ytjochldpacgcgaa.U
