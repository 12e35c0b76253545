/- The document's file: the walk of Extents. -/
import Derived.Test.YtjochldpacgcgaaErefx
import Derived.Test.YtjochldpacgcgaaEcut
import Derived.Deep.DeepCutAuto
set_option linter.unusedVariables false
set_option linter.unusedSimpArgs false
namespace Go.Proofs.Ytjochldpacgcgaa.U
open Go.RowKit Go.Proofs Go.Lib Go.Proofs.YtjochldpacgcgaaW.PrintWords

theorem ct_zero (xs : List Ext) : ct 0 xs = [] := by
  cases xs with
  | nil => rfl
  | cons x t => rw [ct, if_pos (Nat.zero_le _)]
/-- One round: whether a piece begins, and what becomes of the last one. -/
theorem ct_round {size : Nat} {xs : List Ext} {B : List Int} {Z : List Bool} (h : Rel size xs B Z) {i : Nat} {b : Int} (hb : B[i]? = some b) (hz : Z[i]? = some true) :
    ∃ X1 X0 y, X1 = X0 ++ [y] ∧ ct (i + 1) xs = X0 ++ [(y.1, y.2 ++ [b])] ∧ ((i = 0 ∨ Z[i - 1]? = some false) → X1 = ct i xs ++ [(i, [])]) ∧ (¬ (i = 0 ∨ Z[i - 1]? = some false) → X1 = ct i xs) ∧ ∀ x ∈ X0, 0 < x.2.length := by
  have hl : look xs i = some b := by rw [h.at_ i true hz, if_pos rfl, hb]
  have hok := (ct_spec (i + 1) xs 0 h.ok).1
  by_cases hn : i = 0 ∨ Z[i - 1]? = some false
  · have hp : i = 0 ∨ look xs (i - 1) = none := by
      rcases hn with hn | hn
      · exact .inl hn
      · right
        rw [h.at_ _ _ hn]
        rfl
    have e := ct_new i b xs 0 h.ok hl hp
    refine ⟨_, ct i xs, (i, []), rfl, e, fun _ => rfl, fun h => absurd hn h, fun x hx => ?_⟩
    exact (hok.mem x (by rw [e]; exact List.mem_append_left _ hx)).2
  · obtain ⟨j, rfl⟩ : ∃ j, i = j + 1 := ⟨i - 1, by omega⟩
    rw [Nat.add_sub_cancel] at hn ⊢
    have hj : Z[j]? = some true := by
      have hlt := (List.getElem?_eq_some_iff.1 hz).1
      cases hzj : Z[j]? with
      | none => rw [List.getElem?_eq_none_iff] at hzj; omega
      | some z =>
        cases z with
        | true => rfl
        | false => exact absurd (.inr hzj) hn
    have hp : look xs j ≠ none := by
      rw [h.at_ j true hj, if_pos rfl]
      have hlt := (List.getElem?_eq_some_iff.1 hb).1
      rw [List.getElem?_eq_getElem (by omega)]
      simp
    obtain ⟨l, x, e1, e2⟩ := ct_more j b xs 0 h.ok hl hp
    refine ⟨_, l, x, rfl, e2, fun h => absurd h hn, fun _ => e1.symm, fun u hu => ?_⟩
    exact (hok.mem u (by rw [e2]; exact List.mem_append_left _ hu)).2
set_option maxHeartbeats 16000000 in
set_option maxRecDepth 1000000 in
theorem Rextents_calls (base R size : Nat) (xs : List Ext) (B : List Int) (Z : List Bool) (vB vZ : Value) (w : World) (h : RefAt w base R B Z vB vZ) (hrel : Rel size xs B Z) (hs : size ≤ 65536) :
    Calls Try.prog 27 #[.pointer (some ⟨R, 0, none⟩)] w fun e w' => ∃ v, e = .returned v ∧ NewX w' w.heap.size v xs ∧ Below w.heap.size w w' := by
  obtain ⟨AB, cB, rfl, hcB, hAB⟩ := own_slice_form h.rb
  obtain ⟨AZ, cZ, rfl, hcZ, hAZ⟩ := own_slice_form h.rz
  have hbl := hrel.bl
  have hzl := hrel.zl
  rw [hbl] at h hcB
  rw [hzl] at h hcZ
  have HH := Lib.hid h
  have HREL := Lib.hid hrel
  obtain ⟨i0, hi0, hz0, hz1, hz2⟩ := info_parts infoU8
  have HI := Lib.hid (And.intro hi0 (And.intro hz0 (And.intro hz1 hz2)))
  clear h hrel hbl hzl hi0 hz0 hz1 hz2
  go_enter Try.func27, Try.ntmps27
  go_wp2_with fail
  go_loopg [3, 4] size (fun g v3 v4 wr => ∃ i : Nat, v4 = .int .i64 (i : Int) ∧ i + g = size ∧ RX wr w.heap.size v3 (ct i xs) ∧ Below w.heap.size w wr)
  case atStart => exact ⟨0, rfl, Nat.zero_add _, by rw [ct_zero]; exact .inl ⟨rfl, rfl⟩, Below.refl _ _⟩
  case round =>
    obtain ⟨i, rfl, hig, hrx, hbw⟩ := hrel
    obtain ⟨q1, q2, _, _, hRr⟩ := (HH.out.below hbw).cells
    have HRX := Lib.hid hrx
    have HBW := Lib.hid hbw
    have HIG := Lib.hid hig
    obtain ⟨A3, c3, hv3⟩ := hrx.new_.length
    obtain ⟨n3, hn3⟩ : ∃ n3, (ct i xs).length = n3 := ⟨_, rfl⟩
    rw [hn3] at hv3
    subst hv3
    have HN3 := Lib.hid hn3
    clear hrx hbw hn3
    by_cases hin : i < size
    · have d3 : decide ((i : Int) < (size : Int)) = true := by simp; omega
      have i1 : (i : Int) < (size : Int) := by omega
      obtain ⟨gB, rfl⟩ : ∃ g, AB = some ⟨g, 0, none⟩ := by
        rcases hAB with ⟨_, h⟩ | h
        · omega
        · exact h
      obtain ⟨gZ, rfl⟩ : ∃ g, AZ = some ⟨g, 0, none⟩ := by
        rcases hAZ with ⟨_, h⟩ | h
        · omega
        · exact h
      obtain ⟨b, hb⟩ : ∃ b, B[i]? = some b := ⟨_, List.getElem?_eq_getElem (by have := HREL.out.bl; omega)⟩
      obtain ⟨z, hz⟩ : ∃ z, Z[i]? = some z := ⟨_, List.getElem?_eq_getElem (by have := HREL.out.zl; omega)⟩
      have hrr := HH.out.below HBW.out
      have hcellB : ∀ j u, B[j]? = some u → wr.cell? ⟨gB, j, none⟩ = some (.int .u8 u) := fun j u hj => by
        have h1 := hrr.rb.cells (g := gB) rfl j (.int .u8 u) (by unfold nums; rw [List.getElem?_map, hj]; rfl)
        rw [Addr.add_lit, Nat.zero_add] at h1
        exact h1
      have hcellZ : ∀ j u, Z[j]? = some u → wr.cell? ⟨gZ, j, none⟩ = some (.bool u) := fun j u hj => by
        have h1 := hrr.rz.cells (g := gZ) rfl j (.bool u) (by unfold bools; rw [List.getElem?_map, hj]; rfl)
        rw [Addr.add_lit, Nat.zero_add] at h1
        exact h1
      have q3 := hcellB i b hb
      have q4 := hcellZ i z hz
      have HCZ := Lib.hid hcellZ
      clear hcellB hcellZ hrr
      cases z with
      | false =>
        have hl : look xs i = none := by rw [HREL.out.at_ i false hz]; rfl
        have e := ct_none i xs 0 HREL.out.ok hl
        have HE := Lib.hid e
        have HG := Lib.hid hig
        clear e hl hz hb hig
        go_wp2_with fail
        go_roundg (gk - 1)
        case measure => have := HG.out; omega
        case rel => exact ⟨i + 1, by rw [Int.natCast_succ], by have := HG.out; omega, by rw [HE.out]; exact HRX.out, HBW.out⟩
      | true =>
        obtain ⟨X1, X0, y, hX1, hct, hnew, hold, hne⟩ := ct_round HREL.out hb hz
        have hgBw : gB < w.heap.size := (HH.out.rb.lt gB rfl).2
        have HBC := Lib.hid ((HBW.out.cell (p := ⟨gB, i, none⟩) hgBw).symm.trans q3)
        have HBC2 := Lib.hid hgBw
        have HX1 := Lib.hid hX1
        have HCT := Lib.hid hct
        have HNEW := Lib.hid hnew
        have HOLD := Lib.hid hold
        have HNE := Lib.hid hne
        obtain ⟨nw, hnw⟩ : ∃ nw, decide (i = 0 ∨ Z[i - 1]? = some false) = nw := ⟨_, rfl⟩
        have HNW := Lib.hid hnw
        clear hX1 hct hnew hold hne hb hz hnw hig
        go_upto_region 6 with fail
        go_cut [35] (fun v35 wx => v35 = .bool nw ∧ wx = wr)
        case first =>
          by_cases hi0 : i = 0
          · subst hi0
            have e : nw = true := by rw [← HNW.out]; simp
            have HE := Lib.hid e
            clear e
            go_wp2_with fail
            go_meet
            rw [HE.out]
            exact ⟨rfl, rfl⟩
          · have d6 : ((i : Int) == 0) = false := by simp; omega
            obtain ⟨z, hz⟩ : ∃ z, Z[i - 1]? = some z := ⟨_, List.getElem?_eq_getElem (by have := HREL.out.zl; omega)⟩
            have q5 := HCZ.out (i - 1) z hz
            have i2 : (1 : Int) ≤ (i : Int) := by omega
            have i3 : (i : Int) - 1 < (size : Int) := by omega
            have e : nw = !z := by
              rw [← HNW.out, hz]
              cases z <;> simp [hi0]
            have HE := Lib.hid e
            clear e hz
            go_wp2_with fail
            go_meet
            rw [HE.out]
            exact ⟨rfl, rfl⟩
        case rest =>
          obtain ⟨rfl, rfl⟩ := hcut
          go_upto_if 35 with fail
          go_cut [3] (fun v3 wx => RX wx w.heap.size v3 X1 ∧ Below w.heap.size w wx)
          case first =>
            cases nw with
            | true =>
              have hn1 : i = 0 ∨ Z[i - 1]? = some false := of_decide_eq_true HNW.out
              have hX := HNEW.out hn1
              have hbv : Below wc.heap.size wc (wc.alloc (.cells #[.int .i64 (i : Int), .slice none 0 0] 41)) := (Below.refl _ _).alloc (Nat.le_refl _) _
              have hV := heap_alloc_new wc (.cells #[.int .i64 (i : Int), .slice none 0 0] 41)
              have hbw7 := HBW.out.trans (hbv.mono HBW.out.size)
              have hlen : (ct i xs).length ≤ 1000000 := by
                have h1 := (ct_form i xs 0 HREL.out.ok).1
                have h2 := ok_len' HREL.out.ok HREL.out.top
                omega
              obtain ⟨v8, w8, r1, r2, r3⟩ := RX.newp (cV := 1) 38 (HRX.out.below hbv) hV hlen hbw7.size
              have hb8 := hbw7.grown r3 hbw7.size (fun k hk => by
                obtain ⟨_, _, _, h3, _⟩ := HRX.out.new_
                exact h3 k hk)
              rw [← hX] at r2
              have HR1 := Lib.hid r1
              have HR2 := Lib.hid (And.intro r2 hb8)
              clear hn1 hX hbv hV hbw7 hlen r1 r2 r3 hb8
              go_wp2_with (at_builtin; refine Lib.wpList_append_run _ rfl _ _ _ _ rfl _ _ rfl rfl _ _ HR1.out ?_)
              go_meet
              exact HR2.out
            | false =>
              have hn1 : ¬ (i = 0 ∨ Z[i - 1]? = some false) := of_decide_eq_false HNW.out
              have hX := HOLD.out hn1
              have HHX := Lib.hid hX
              clear hX hn1
              go_wp2_with fail
              go_meet
              rw [HHX.out]
              exact ⟨HRX.out, HBW.out⟩
          case rest =>
            obtain ⟨hrx, hbw⟩ := hcut
            rw [HX1.out] at hrx
            obtain ⟨L, cL, vb, rfl, hLc, hbL, hLw, q5, f5, hown, hpush⟩ := hrx.open_
            obtain ⟨k, hk⟩ : ∃ k, X0.length = k := ⟨_, rfl⟩
            rw [hk] at hLc q5 f5 hpush ⊢
            obtain ⟨Ab, cb, rfl, _, _⟩ := own_slice_form hown
            have hrr := HH.out.below hbw
            obtain ⟨q6, q7, _, _, _⟩ := hrr.cells
            have q8 : wc.cell? ⟨gB, i, none⟩ = some (.int .u8 b) := by
              have h1 := HBC.out
              rw [hbw.cell (p := ⟨gB, i, none⟩) HBC2.out]
              exact h1
            have hyl : y.2.length ≤ 65536 := by
              have hy : (y.1, y.2 ++ [b]) ∈ ct (i + 1) xs := by rw [HCT.out]; exact List.mem_append_right _ List.mem_cons_self
              have h1 := (ct_spec (i + 1) xs 0 HREL.out.ok).2.2 _ hy
              have h2 : en (y.1, y.2 ++ [b]) = y.1 + (y.2 ++ [b]).length := rfl
              rw [List.length_append, List.length_singleton] at h2
              omega
            have hbs := hbw.size
            have HOWN := Lib.hid hown
            have HPUSH := Lib.hid hpush
            have HBW2 := Lib.hid hbw
            have i2 : (k : Int) < (k : Int) + 1 := by omega
            have i3 : (k : Int) + 1 - 1 = (k : Int) := by omega
            have i4 : ((k + 1 : Nat) : Int) = (k : Int) + 1 := Int.natCast_succ k
            have hkl : k ≤ 100000 := by
              have h1 := (ct_form (i + 1) xs 0 HREL.out.ok).1
              rw [HCT.out, List.length_append, hk] at h1
              have h2 := ok_len' HREL.out.ok HREL.out.top
              have h3 : [(y.1, y.2 ++ [b])].length = 1 := rfl
              omega
            clear hrx hown hpush hbw hrr hk q3 q4
            go_wp2_with fail
            refine AnyL.start (fun w' => w'.cell? ⟨R, 0, none⟩ = some (.slice (some ⟨gB, 0, none⟩) size cB) ∧ w'.cell? ⟨gB, i, none⟩ = some (.int .u8 b) ∧ w'.cell? ⟨L, k * 2 + 1, none⟩ = some (.slice Ab y.2.length cb)) 18 (by kernel_rfl) ⟨q6, q8, q5⟩ (fun hHeld => ?_)
            refine AnyL.take (i := 0) (v := ?vy0) rfl (by kernel_rfl) (by kernel_rfl) (by kernel_rfl) (by kernel_rfl) (fun _ _ _ h => h) (by assumption) (Or.inl ⟨by rfl, ?y0⟩) ?ry0
            case y0 => (intro w hSw; (try dsimp only at hSw); go_simp; try with_reducible rfl)
            try simp only [Act.put, List.setIfInBounds_toArray, List.set_cons_zero, List.set_cons_succ]
            refine AnyL.take (i := 1) (v := ?vy1) rfl (by kernel_rfl) (by kernel_rfl) (by kernel_rfl) (by kernel_rfl) (fun _ _ _ h => h) (by assumption) (Or.inl ⟨by rfl, ?y1⟩) ?ry1
            case y1 => (intro w hSw; (try dsimp only at hSw); go_simp; try with_reducible rfl)
            try simp only [Act.put, List.setIfInBounds_toArray, List.set_cons_zero, List.set_cons_succ]
            refine AnyL.take (i := 2) (v := ?vy2) rfl (by kernel_rfl) (by kernel_rfl) (by kernel_rfl) (by kernel_rfl) (fun _ _ _ h => h) (by assumption) (Or.inl ⟨by rfl, ?y2⟩) ?ry2
            case y2 => (intro w hSw; (try dsimp only at hSw); go_simp; try with_reducible rfl)
            try simp only [Act.put, List.setIfInBounds_toArray, List.set_cons_zero, List.set_cons_succ]
            refine AnyL.take (i := 3) (v := ?vy3) rfl (by kernel_rfl) (by kernel_rfl) (by kernel_rfl) (by kernel_rfl) (fun _ _ _ h => h) (by assumption) (Or.inl ⟨by rfl, ?y3⟩) ?ry3
            case y3 => (intro w hSw; (try dsimp only at hSw); go_simp; try with_reducible rfl)
            try simp only [Act.put, List.setIfInBounds_toArray, List.set_cons_zero, List.set_cons_succ]
            refine AnyL.take (i := 4) (v := ?vy4) rfl (by kernel_rfl) (by kernel_rfl) (by kernel_rfl) (by kernel_rfl) (fun _ _ _ h => h) (by assumption) (Or.inl ⟨by rfl, ?y4⟩) ?ry4
            case y4 => (intro w hSw; (try dsimp only at hSw); go_simp; try with_reducible rfl)
            try simp only [Act.put, List.setIfInBounds_toArray, List.set_cons_zero, List.set_cons_succ]
            refine AnyL.take (i := 5) (v := ?vy5) rfl (by kernel_rfl) (by kernel_rfl) (by kernel_rfl) (by kernel_rfl) (fun _ _ _ h => h) (by assumption) (Or.inl ⟨by rfl, ?y5⟩) ?ry5
            case y5 => (intro w hSw; (try dsimp only at hSw); go_simp; try with_reducible rfl)
            try simp only [Act.put, List.setIfInBounds_toArray, List.set_cons_zero, List.set_cons_succ]
            refine AnyL.take (i := 6) (v := ?vy6) rfl (by kernel_rfl) (by kernel_rfl) (by kernel_rfl) (by kernel_rfl) (fun _ _ _ h => h) (by assumption) (Or.inl ⟨by rfl, ?y6⟩) ?ry6
            case y6 => (intro w hSw; (try dsimp only at hSw); go_simp; try with_reducible rfl)
            try simp only [Act.put, List.setIfInBounds_toArray, List.set_cons_zero, List.set_cons_succ]
            refine AnyL.take (i := 7) (v := ?vy7) rfl (by kernel_rfl) (by kernel_rfl) (by kernel_rfl) (by kernel_rfl) (fun _ _ _ h => h) (by assumption) (Or.inl ⟨by rfl, ?y7⟩) ?ry7
            case y7 => (intro w hSw; (try dsimp only at hSw); go_simp; try with_reducible rfl)
            try simp only [Act.put, List.setIfInBounds_toArray, List.set_cons_zero, List.set_cons_succ]
            refine AnyL.take (i := 8) (v := ?vy8) rfl (by kernel_rfl) (by kernel_rfl) (by kernel_rfl) (by kernel_rfl) (fun _ _ _ h => h) (by assumption) (Or.inl ⟨by rfl, ?y8⟩) ?ry8
            case y8 => (intro w hSw; (try dsimp only at hSw); go_simp; try with_reducible rfl)
            try simp only [Act.put, List.setIfInBounds_toArray, List.set_cons_zero, List.set_cons_succ]
            refine AnyL.take (i := 9) (v := ?vy9) rfl (by kernel_rfl) (by kernel_rfl) (by kernel_rfl) (by kernel_rfl) (fun _ _ _ h => h) (by assumption) (Or.inl ⟨by rfl, ?y9⟩) ?ry9
            case y9 => (intro w hSw; (try dsimp only at hSw); go_simp; try with_reducible rfl)
            try simp only [Act.put, List.setIfInBounds_toArray, List.set_cons_zero, List.set_cons_succ]
            refine AnyL.take (i := 10) (v := ?vy10) rfl (by kernel_rfl) (by kernel_rfl) (by kernel_rfl) (by kernel_rfl) (fun _ _ _ h => h) (by assumption) (Or.inl ⟨by rfl, ?y10⟩) ?ry10
            case y10 => (intro w hSw; (try dsimp only at hSw); go_simp; try with_reducible rfl)
            try simp only [Act.put, List.setIfInBounds_toArray, List.set_cons_zero, List.set_cons_succ]
            refine AnyL.take (i := 11) (v := ?vy11) rfl (by kernel_rfl) (by kernel_rfl) (by kernel_rfl) (by kernel_rfl) (fun _ _ _ h => h) (by assumption) (Or.inl ⟨by rfl, ?y11⟩) ?ry11
            case y11 => (intro w hSw; (try dsimp only at hSw); go_simp; try with_reducible rfl)
            try simp only [Act.put, List.setIfInBounds_toArray, List.set_cons_zero, List.set_cons_succ]
            refine AnyL.take (i := 12) (v := ?vy12) rfl (by kernel_rfl) (by kernel_rfl) (by kernel_rfl) (by kernel_rfl) (fun _ _ _ h => h) (by assumption) (Or.inl ⟨by rfl, ?y12⟩) ?ry12
            case y12 => (intro w hSw; (try dsimp only at hSw); go_simp; try with_reducible rfl)
            try simp only [Act.put, List.setIfInBounds_toArray, List.set_cons_zero, List.set_cons_succ]
            refine AnyL.take (i := 13) (v := ?vy13) rfl (by kernel_rfl) (by kernel_rfl) (by kernel_rfl) (by kernel_rfl) (fun _ _ _ h => h) (by assumption) (Or.inl ⟨by rfl, ?y13⟩) ?ry13
            case y13 => (intro w hSw; (try dsimp only at hSw); go_simp; try with_reducible rfl)
            try simp only [Act.put, List.setIfInBounds_toArray, List.set_cons_zero, List.set_cons_succ]
            have hbv : Below wc.heap.size wc (wc.alloc (.cells #[.int .u8 b] 5)) := (Below.refl _ _).alloc (Nat.le_refl _) _
            have hV := heap_alloc_new wc (.cells #[.int .u8 b] 5)
            refine AnyL.one (i := 14) (by kernel_rfl) rfl (fun K hK => ?_)
            go_simp
            obtain ⟨wv, hwv⟩ : ∃ wv, wc.alloc (.cells #[.int .u8 b] 5) = wv := ⟨_, rfl⟩
            rw [hwv] at hbv hV ⊢
            have hSv : wv.cell? ⟨R, 0, none⟩ = some (.slice (some ⟨gB, 0, none⟩) size cB) ∧ wv.cell? ⟨gB, i, none⟩ = some (.int .u8 b) ∧ wv.cell? ⟨L, k * 2 + 1, none⟩ = some (.slice Ab y.2.length cb) :=
              ⟨(hbv.cell (p := ⟨R, 0, none⟩) (by have := HH.out.cells.2.2.2.2; omega)).trans q6, (hbv.cell (p := ⟨gB, i, none⟩) (by have := HBC2.out; show gB < _; omega)).trans q8, (hbv.cell (p := ⟨L, k * 2 + 1, none⟩) hLw).trans q5⟩
            refine hK.out _ _ (.inr hSv) ?_
            clear hHeld hK K
            try simp only [Act.put, List.setIfInBounds_toArray, List.set_cons_zero, List.set_cons_succ]
            have hvs : w.heap.size ≤ wv.heap.size := Nat.le_trans hbs hbv.size
            refine AnyL.one (i := 15) (by kernel_rfl) rfl (fun K hK => ?_)
            refine step_append_lies _ (by rfl) _ _ 29 (by rfl) w.heap.size 5 i0 (.int .u8 0) 1 1 Try.underlying29 HI.out.1 HI.out.2.1 HI.out.2.2.1 HI.out.2.2.2 rfl (by decide) (.slice Ab y.2.length cb) y.2.length (nums .u8 y.2) (by rfl) (own_below HOWN.out hbv).drew ⟨wc.heap.size, 0, none⟩ 1 1 [.int .u8 b] (by rfl) rfl (World.news_of_block hV) (fun u hu => by rw [List.mem_singleton.1 hu]; rfl) (by decide) (by unfold maxLen; omega) (by omega) hvs _ rfl ?_
            intro g6 cap6 w6 ho6 hg6 hat6 hlt6
            have hgr : wc.grownBy w6 (Value.slice Ab y.2.length cb).ownBlock := ⟨hg6.os.trans hbv.os, hg6.tape.trans hbv.tape, hg6.output.trans hbv.output, Nat.le_trans hbv.size hg6.size, fun j hj hne => (hg6.block j (Nat.lt_of_lt_of_le hj hbv.size) hne).trans (hbv.block j hj)⟩
            obtain ⟨q15, f15, hrx6⟩ := HPUSH.out w6 (.slice (some ⟨g6, 0, none⟩) (y.2.length + 1) cap6) b hgr ho6 (by
              rcases hat6 with e | e
              · exact .inl e.symm
              · exact .inr ⟨g6, rfl, by rw [e]; exact hbv.size⟩) HNE.out
            have hvb : ∀ j, (Value.slice Ab y.2.length cb).ownBlock = some j → w.heap.size ≤ j := fun j hj => (HOWN.out.lt j hj).1
            have hS6 : w6.cell? ⟨R, 0, none⟩ = some (.slice (some ⟨gB, 0, none⟩) size cB) ∧ w6.cell? ⟨gB, i, none⟩ = some (.int .u8 b) ∧ w6.cell? ⟨L, k * 2 + 1, none⟩ = some (.slice Ab y.2.length cb) := by
              have hRw := HH.out.cells.2.2.2.2
              have hgw := HBC2.out
              refine ⟨(World.cell?_of_block (a := ⟨R, 0, none⟩) (hgr.block R (by omega) (fun e => ?_))).trans q6, (World.cell?_of_block (a := ⟨gB, i, none⟩) (hgr.block gB (by omega) (fun e => ?_))).trans q8, q15⟩
              · have := hvb R e.symm; omega
              · have := hvb gB e.symm; omega
            refine hK.out _ _ (.inr hS6) ?_
            have hHeld := hS6
            clear hK K
            try simp only [Act.put, List.setIfInBounds_toArray, List.set_cons_zero, List.set_cons_succ]
            refine AnyL.one (i := 16) (by kernel_rfl) rfl (fun K hK => ?_)
            go_simp
            refine hK.out _ _ (.inr hHeld) ?_
            clear hK K
            try simp only [Act.put, List.setIfInBounds_toArray, List.set_cons_zero, List.set_cons_succ]
            refine AnyL.take (i := 17) (v := ?vy17) rfl (by kernel_rfl) (by kernel_rfl) (by kernel_rfl) (by kernel_rfl) (fun _ _ _ h => h) (by assumption) (Or.inl ⟨by rfl, ?y17⟩) ?ry17
            case y17 => (intro w hSw; (try dsimp only at hSw); go_simp; try with_reducible rfl)
            try simp only [Act.put, List.setIfInBounds_toArray, List.set_cons_zero, List.set_cons_succ]
            have hb6 : Below w.heap.size w w6 := HBW2.out.grown hgr hbs hvb
            refine AnyL.one (i := 18) (by kernel_rfl) rfl (fun K hK => ?_)
            go_simp
            refine hK.out _ _ (.inl rfl) ?_
            clear hHeld hK K
            refine AnyL.done (by kernel_rfl) ?_ _
            have HFIN : Hid (RX (w6.setCell ⟨L, k * 2 + 1, none⟩ (.slice (some ⟨g6, 0, none⟩) (y.2.length + 1) cap6)) w.heap.size (.slice (some ⟨L, 0, none⟩) (k + 1) cL) (ct (i + 1) xs) ∧ Below w.heap.size w (w6.setCell ⟨L, k * 2 + 1, none⟩ (.slice (some ⟨g6, 0, none⟩) (y.2.length + 1) cap6))) := by
              rw [HCT.out]
              exact Lib.hid ⟨hrx6, hb6.setCell (p := ⟨L, k * 2 + 1, none⟩) hbL _⟩
            clear hS6 hrx6 hb6 hvb ho6 hg6 hat6 hlt6 hgr q15 f15 hSv hvs hV hbv hwv
            go_wp2_with fail
            go_roundg (gk - 1)
            case measure => have := HIG.out; omega
            case rel => exact ⟨i + 1, by rw [Int.natCast_succ], by have := HIG.out; omega, HFIN.out.1, HFIN.out.2⟩
    · have his : i = size := by omega
      subst his
      have d3 : decide ((i : Int) < (i : Int)) = false := by simp
      have e := ct_all i xs 0 HREL.out.ok HREL.out.top
      have HE := Lib.hid e
      clear e hig
      go_wp2_with fail
      go_ret
      have h := HRX.out.new_
      rw [HE.out] at h
      exact ⟨_, rfl, h, HBW.out⟩
end Go.Proofs.Ytjochldpacgcgaa.U
