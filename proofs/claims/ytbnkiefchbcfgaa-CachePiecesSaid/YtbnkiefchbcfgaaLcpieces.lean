/- The law CachePieces: pieces rise, do not meet or touch, stand within the size, and have what is read. -/
import Derived.Test.YtbnkiefchbcfgaaClawk
set_option linter.unusedVariables false
set_option linter.unusedSimpArgs false
namespace Go.Proofs.Ytbnkiefchbcfgaa.U
open Go.RowKit Go.Proofs Go.Lib Go.Proofs.YtbnkiefchbcfgaaW.PrintWords

theorem ok_next : ∀ (xs : List Ext) (k i : Nat) (x y : Ext), Ok k xs → xs[i]? = some x → xs[i + 1]? = some y → en x < y.1 := by
  intro xs
  induction xs with
  | nil => intro k i x y _ h; simp at h
  | cons z t ih =>
    intro k i x y h hx hy
    rw [List.getElem?_cons_succ] at hy
    cases i with
    | zero =>
      rw [List.getElem?_cons_zero] at hx
      injection hx with hx
      subst hx
      cases t with
      | nil => simp at hy
      | cons u t =>
        rw [List.getElem?_cons_zero] at hy
        injection hy with hy
        subst hy
        have := h.2.2.1
        omega
    | succ i =>
      rw [List.getElem?_cons_succ] at hx
      exact ih _ i x y h.2.2 hx hy
/-- A piece is read whole. -/
theorem read_piece {s : St} {n : Nat} (g : Good s n) {x : Ext} (hx : x ∈ s.xs) : stOk s (x.1 : Int) (x.2.length : Int) = true ∧ stB s (x.1 : Int) (x.2.length : Int) = x.2 := by
  have h0 := (g.fit.ok.mem x hx).2
  have ht := g.fit.top x hx
  have ex : en x = x.1 + x.2.length := rfl
  have hl : 0 < s.lvl := by
    rcases Nat.eq_zero_or_pos s.lvl with h | h
    · rw [g.lz h] at hx; cases hx
    · exact h
  have hk : knB s.xs x.1 x.2.length = true := by
    rw [knB_iff]
    intro j hj
    rw [look_mem s.xs 0 g.fit.ok x hx (x.1 + j) (by omega) (by omega), List.getElem?_eq_getElem (by omega)]
    simp
  have e : rdOk s.lvl s.size s.xs (x.1 : Int) (x.2.length : Int) = true := by
    unfold rdOk
    rw [Int.toNat_natCast, Int.toNat_natCast, hk, Bool.and_true, decide_eq_true_iff]
    omega
  refine ⟨e, ?_⟩
  unfold stB rdB
  rw [if_pos e, Int.toNat_natCast, Int.toNat_natCast, bytesAt_of g.fit.ok hx x.1 x.2.length (Nat.le_refl _) (by omega), Nat.sub_self, List.drop_zero, List.take_length]
set_option maxHeartbeats 8000000 in
set_option maxRecDepth 1000000 in
theorem CachePieces_bad (lvl : Nat) (size : Int) (A : Option Addr) (c k : Nat) (w : World) (hbad : NBad lvl size) :
    Calls Try.prog 8 #[.int .u8 (lvl : Int), .int .i64 size, .slice A k c] w fun e w' => e = .returned (.bool true) ∧ Below w.heap.size w w' := by
  have C1 := Lib.hid (played_bad lvl size A k c w hbad)
  clear hbad
  go_enter Try.func8, Try.ntmps8
  go_wp2_with fail
  refine (C1.out).mono ?_
  rintro e w1 ⟨rfl, hb1⟩
  have HB1 := Lib.hid hb1
  clear hb1 C1
  go_wp2_with fail
  refine (Pieces_off _ w1 (.inl rfl)).mono ?_
  rintro e w2 ⟨rfl, rfl⟩
  go_wp2_with fail
  go_loopg [11, 12] 0 (fun g v11 v12 wr => v11 = .int .i64 (-1) ∧ v12 = .int .i64 0 ∧ Below w2.heap.size w2 wr)
  case atStart => exact ⟨rfl, rfl, Below.refl _ _⟩
  case round =>
    obtain ⟨rfl, rfl, hb⟩ := hrel
    have HB := Lib.hid (HB1.out.trans (hb.mono HB1.out.size))
    clear hb
    go_wp2_with fail
    refine (Size_off _ wr (.inl rfl)).mono ?_
    rintro e w3 ⟨rfl, rfl⟩
    go_wp2_with fail
    refine (works_calls _).mono ?_
    rintro e w10 ⟨rfl, hb10⟩
    go_wp2
    go_ret
    exact ⟨rfl, HB.out.trans (hb10.mono HB.out.size)⟩
set_option maxHeartbeats 8000000 in
set_option maxRecDepth 1000000 in
theorem CachePieces_walk (lvl : Nat) (size : Int) (A : Option Addr) (c : Nat) (l : List ActV) (w : World) (h : AR w A l) (hl : l.length ≤ 140737488351232) :
    Calls Try.prog 8 #[.int .u8 (lvl : Int), .int .i64 size, .slice A l.length c] w fun e w' => e = .returned (.bool true) ∧ Below w.heap.size w w' := by
  by_cases hbad : NBad lvl size
  · exact CachePieces_bad lvl size A c l.length w hbad
  · obtain ⟨a, b, ha, rfl, hlv, hsz⟩ := NBad.not hbad (by omega)
    obtain rfl : lvl = a := by omega
    have C1 := Lib.hid (played_calls lvl b A c l w hlv hsz h (by omega))
    clear h hl hbad ha
    go_enter Try.func8, Try.ntmps8
    go_wp2_with fail
    refine (C1.out).mono ?_
    rintro e w1 ⟨C, R, rfl, hp⟩
    obtain ⟨s, lA, cl, oA, oc, ha⟩ := Al.of hp
    have HA := Lib.hid ha
    clear ha hp C1
    go_wp2_with fail
    refine (LP HA.out).mono ?_
    rintro e w2 ⟨v2, rfl, hn2, hb2, ha2⟩
    have HN2 := Lib.hid hn2.toX
    have HA2 := Lib.hid ha2
    obtain ⟨A2, c2, rfl⟩ := hn2.toX.length
    obtain ⟨n, hn⟩ : ∃ n, s.xs.length = n := ⟨_, rfl⟩
    rw [hn] at HN2 ⊢
    have HLN := Lib.hid hn
    have HSM := Lib.hid ha2.g.small
    have hn9 : n ≤ 1000000000 := by rw [← hn]; exact ha2.fits.1
    clear hn2 hb2 ha2 HA hn
    go_wp2_with fail
    go_loopg [11, 12] n (fun g v11 v12 wr => ∃ (i : Nat) (E : Int), v11 = .int .i64 E ∧ v12 = .int .i64 (i : Int) ∧ i + g = n ∧ (∀ x, s.xs[i]? = some x → E < x.1) ∧ E ≤ s.size ∧ Below w2.heap.size w2 wr)
    case atStart => exact ⟨0, -1, rfl, rfl, Nat.zero_add _, fun x _ => by omega, by omega, Below.refl _ _⟩
    case round =>
      obtain ⟨i, E, rfl, rfl, hig, hE, hEs, hbw⟩ := hrel
      have HBW := Lib.hid hbw
      have HIG := Lib.hid hig
      by_cases hin : i < n
      · have d1 : decide ((i : Int) < (n : Int)) = true := by simp; omega
        have i1 : (i : Int) < (n : Int) := by omega
        obtain ⟨x, hx⟩ : ∃ x, s.xs[i]? = some x := ⟨_, List.getElem?_eq_getElem (by rw [HLN.out]; exact hin)⟩
        have hmem := List.mem_of_getElem? hx
        obtain ⟨L, k1, B1, d1', e1, _, _, hLw, q1, q2, r1, _⟩ := (HN2.out.below hbw).at_ hx
        injection e1 with e1 f1 g1
        clear f1 g1
        subst e1
        have hlt := hE x hx
        have h0 := (HA2.out.g.fit.ok.mem x hmem).2
        have ht := HA2.out.g.fit.top x hmem
        have hsm := HA2.out.g.small
        have ex : en x = x.1 + x.2.length := rfl
        obtain ⟨k1', k2'⟩ := read_piece HA2.out.g hmem
        have hxl : x.2.length ≤ 1000000000 := by omega
        have hnext : ∀ y, s.xs[i + 1]? = some y → ((en x : Nat) : Int) < y.1 := fun y hy => by
          have := ok_next s.xs 0 i x y HA2.out.g.fit.ok hx hy
          omega
        have HK := Lib.hid (And.intro k1' k2')
        have HNX := Lib.hid hnext
        have hKS : ∀ w', Below wr.heap.size wr w' → w'.cell? ⟨L, i * 2, none⟩ = some (.int .i64 (x.1 : Int)) ∧ w'.cell? ⟨L, i * 2 + 1, none⟩ = some (.slice B1 x.2.length d1') ∧ BR w' B1 d1' x.2 := fun w' hb =>
          ⟨(hb.cell (p := ⟨L, i * 2, none⟩) hLw).trans q1, (hb.cell (p := ⟨L, i * 2 + 1, none⟩) hLw).trans q2, r1.kept (U8K.below hb)⟩
        have KS := Lib.hid hKS
        have CR := Lib.hid (fun W (hW : Below wr.heap.size wr W) => LRead (HA2.out.below (hbw.trans (hW.mono hbw.size))) (x.1 : Int) (x.2.length : Int))
        have hexn : en x ≤ s.size := ht
        have d2 : decide ((x.1 : Int) ≤ E) = false := by simp; omega
        have d3 : ((x.2.length : Int) == 0) = false := beq_eq_false_iff_ne.2 (by omega)
        have hE2 : ((en x : Nat) : Int) ≤ s.size := by omega
        have hwr : IntKind.i64.wrap ((x.1 : Int) + (x.2.length : Int)) = ((en x : Nat) : Int) := by rw [wrap_small _ (by omega) (by omega), ex]; omega
        have HWR := Lib.hid hwr
        have hS0 := hKS _ (below_drew1 (Below.refl _ _))
        have hHS : wr.drew.cell? ⟨L, i * 2, none⟩ = some (.int .i64 (x.1 : Int)) ∧ wr.drew.cell? ⟨L, i * 2 + 1, none⟩ = some (.slice B1 x.2.length d1') := ⟨hS0.1, hS0.2.1⟩
        clear hbw hig hE hlt k1' k2' hnext hKS q1 q2 r1 hx hmem ht ex hwr hexn h0 hS0
        obtain ⟨m, hm⟩ : ∃ m, x.2.length = m := ⟨_, rfl⟩
        rw [hm] at HK KS CR d3 hHS HWR hxl
        have HM := Lib.hid hm
        clear hm
        go_wp2_with fail
        refine AnyL.start (fun w' => w'.cell? ⟨L, i * 2, none⟩ = some (.int .i64 (x.1 : Int)) ∧ w'.cell? ⟨L, i * 2 + 1, none⟩ = some (.slice B1 m d1')) 99 (by kernel_rfl) hHS (fun hHeld => ?_)
        refine AnyL.take (i := 0) (v := ?vy0) rfl (by kernel_rfl) (by kernel_rfl) (by kernel_rfl) (by kernel_rfl) (fun _ _ _ h => h) (by assumption) (Or.inl ⟨by rfl, ?y0⟩) ?ry0
        case y0 => (intro w hSw; (try dsimp only at hSw); go_simp; try with_reducible rfl)
        try simp only [Act.put, List.setIfInBounds_toArray, List.set_cons_zero, List.set_cons_succ]
        refine AnyL.take (i := 1) (v := ?vy1) rfl (by kernel_rfl) (by kernel_rfl) (by kernel_rfl) (by kernel_rfl) (fun _ _ _ h => h) (by assumption) (Or.inl ⟨by rfl, ?y1⟩) ?ry1
        case y1 => (intro w hSw; (try dsimp only at hSw); go_simp; try with_reducible rfl)
        try simp only [Act.put, List.setIfInBounds_toArray, List.set_cons_zero, List.set_cons_succ]
        refine AnyL.take (i := 2) (v := ?vy2) rfl (by kernel_rfl) (by kernel_rfl) (by kernel_rfl) (by kernel_rfl) (fun _ _ _ h => h) (by assumption) (Or.inl ⟨by rfl, ?y2⟩) ?ry2
        case y2 => (intro w hSw; (try dsimp only at hSw); go_simp; try with_reducible rfl)
        try simp only [Act.put, List.setIfInBounds_toArray, List.set_cons_zero, List.set_cons_succ]
        refine AnyL.take (i := 3) (v := ?vy3) rfl (by kernel_rfl) (by kernel_rfl) (by kernel_rfl) (by kernel_rfl) (fun _ _ _ h => h) (by assumption) (Or.inl ⟨by rfl, ?y3⟩) ?ry3
        case y3 => (intro w hSw; (try dsimp only at hSw); go_simp; try with_reducible rfl)
        try simp only [Act.put, List.setIfInBounds_toArray, List.set_cons_zero, List.set_cons_succ]
        refine AnyL.take (i := 4) (v := ?vy4) rfl (by kernel_rfl) (by kernel_rfl) (by kernel_rfl) (by kernel_rfl) (fun _ _ _ h => h) (by assumption) (Or.inl ⟨by rfl, ?y4⟩) ?ry4
        case y4 => (intro w hSw; (try dsimp only at hSw); go_simp; try with_reducible rfl)
        try simp only [Act.put, List.setIfInBounds_toArray, List.set_cons_zero, List.set_cons_succ]
        refine AnyL.take (i := 5) (v := ?vy5) rfl (by kernel_rfl) (by kernel_rfl) (by kernel_rfl) (by kernel_rfl) (fun _ _ _ h => h) (by assumption) (Or.inl ⟨by rfl, ?y5⟩) ?ry5
        case y5 => (intro w hSw; (try dsimp only at hSw); go_simp; try with_reducible rfl)
        try simp only [Act.put, List.setIfInBounds_toArray, List.set_cons_zero, List.set_cons_succ]
        refine AnyL.take (i := 6) (v := ?vy6) rfl (by kernel_rfl) (by kernel_rfl) (by kernel_rfl) (by kernel_rfl) (fun _ _ _ h => h) (by assumption) (Or.inl ⟨by rfl, ?y6⟩) ?ry6
        case y6 => (intro w hSw; (try dsimp only at hSw); go_simp; try with_reducible rfl)
        try simp only [Act.put, List.setIfInBounds_toArray, List.set_cons_zero, List.set_cons_succ]
        refine AnyL.take (i := 7) (v := ?vy7) rfl (by kernel_rfl) (by kernel_rfl) (by kernel_rfl) (by kernel_rfl) (fun _ _ _ h => h) (by assumption) (Or.inl ⟨by rfl, ?y7⟩) ?ry7
        case y7 => (intro w hSw; (try dsimp only at hSw); go_simp; try with_reducible rfl)
        try simp only [Act.put, List.setIfInBounds_toArray, List.set_cons_zero, List.set_cons_succ]
        refine AnyL.take (i := 8) (v := ?vy8) rfl (by kernel_rfl) (by kernel_rfl) (by kernel_rfl) (by kernel_rfl) (fun _ _ _ h => h) (by assumption) (Or.inl ⟨by rfl, ?y8⟩) ?ry8
        case y8 => (intro w hSw; (try dsimp only at hSw); go_simp; try with_reducible rfl)
        try simp only [Act.put, List.setIfInBounds_toArray, List.set_cons_zero, List.set_cons_succ]
        refine AnyL.take (i := 9) (v := ?vy9) rfl (by kernel_rfl) (by kernel_rfl) (by kernel_rfl) (by kernel_rfl) (fun _ _ _ h => h) (by assumption) (Or.inl ⟨by rfl, ?y9⟩) ?ry9
        case y9 => (intro w hSw; (try dsimp only at hSw); go_simp; try with_reducible rfl)
        try simp only [Act.put, List.setIfInBounds_toArray, List.set_cons_zero, List.set_cons_succ]
        refine AnyL.take (i := 10) (v := ?vy10) rfl (by kernel_rfl) (by kernel_rfl) (by kernel_rfl) (by kernel_rfl) (fun _ _ _ h => h) (by assumption) (Or.inl ⟨by rfl, ?y10⟩) ?ry10
        case y10 => (intro w hSw; (try dsimp only at hSw); go_simp; try with_reducible rfl)
        try simp only [Act.put, List.setIfInBounds_toArray, List.set_cons_zero, List.set_cons_succ]
        refine AnyL.take (i := 11) (v := ?vy11) rfl (by kernel_rfl) (by kernel_rfl) (by kernel_rfl) (by kernel_rfl) (fun _ _ _ h => h) (by assumption) (Or.inl ⟨by rfl, ?y11⟩) ?ry11
        case y11 => (intro w hSw; (try dsimp only at hSw); go_simp; try with_reducible rfl)
        try simp only [Act.put, List.setIfInBounds_toArray, List.set_cons_zero, List.set_cons_succ]
        refine AnyL.one (i := 12) (by kernel_rfl) rfl (fun K hK => ?_)
        go_simp
        refine (CR.out _ (below_drew1 (Below.refl _ _))).mono ?_
        rintro e w5 ⟨A5, c5, rfl, ha5, hal5⟩
        rw [HK.out.1, HK.out.2, HM.out]
        have hb5 := (below_drew1 (Below.refl wr.heap.size wr)).trans ha5.2.2.2
        obtain ⟨p1, p2, p3⟩ := KS.out _ hb5
        refine hK.out _ _ (.inr ⟨p1, p2⟩) ?_
        clear hHeld hK K
        have hHeld : w5.cell? ⟨L, i * 2, none⟩ = some (.int .i64 (x.1 : Int)) ∧ w5.cell? ⟨L, i * 2 + 1, none⟩ = some (.slice B1 m d1') := ⟨p1, p2⟩
        try simp only [Act.put, List.setIfInBounds_toArray, List.set_cons_zero, List.set_cons_succ]
        refine AnyL.take (i := 13) (v := ?vy13) rfl (by kernel_rfl) (by kernel_rfl) (by kernel_rfl) (by kernel_rfl) (fun _ _ _ h => h) (by assumption) (Or.inl ⟨by rfl, ?y13⟩) ?ry13
        case y13 => (intro w hSw; (try dsimp only at hSw); go_simp; try with_reducible rfl)
        try simp only [Act.put, List.setIfInBounds_toArray, List.set_cons_zero, List.set_cons_succ]
        refine AnyL.take (i := 14) (v := ?vy14) rfl (by kernel_rfl) (by kernel_rfl) (by kernel_rfl) (by kernel_rfl) (fun _ _ _ h => h) (by assumption) (Or.inl ⟨by rfl, ?y14⟩) ?ry14
        case y14 => (intro w hSw; (try dsimp only at hSw); go_simp; try with_reducible rfl)
        try simp only [Act.put, List.setIfInBounds_toArray, List.set_cons_zero, List.set_cons_succ]
        refine AnyL.take (i := 15) (v := ?vy15) rfl (by kernel_rfl) (by kernel_rfl) (by kernel_rfl) (by kernel_rfl) (fun _ _ _ h => h) (by assumption) (Or.inl ⟨by rfl, ?y15⟩) ?ry15
        case y15 => (intro w hSw; (try dsimp only at hSw); go_simp; try with_reducible rfl)
        try simp only [Act.put, List.setIfInBounds_toArray, List.set_cons_zero, List.set_cons_succ]
        refine AnyL.take (i := 16) (v := ?vy16) rfl (by kernel_rfl) (by kernel_rfl) (by kernel_rfl) (by kernel_rfl) (fun _ _ _ h => h) (by assumption) (Or.inl ⟨by rfl, ?y16⟩) ?ry16
        case y16 => (intro w hSw; (try dsimp only at hSw); go_simp; try with_reducible rfl)
        try simp only [Act.put, List.setIfInBounds_toArray, List.set_cons_zero, List.set_cons_succ]
        refine AnyL.take (i := 17) (v := ?vy17) rfl (by kernel_rfl) (by kernel_rfl) (by kernel_rfl) (by kernel_rfl) (fun _ _ _ h => h) (by assumption) (Or.inl ⟨by rfl, ?y17⟩) ?ry17
        case y17 => (intro w hSw; (try dsimp only at hSw); go_simp; try with_reducible rfl)
        try simp only [Act.put, List.setIfInBounds_toArray, List.set_cons_zero, List.set_cons_succ]
        refine AnyL.done (by kernel_rfl) ?_ _
        have hbr5 := ha5.1
        rw [HK.out.2] at hbr5
        have HBR := Lib.hid (And.intro hbr5 p3)
        have HB5 := Lib.hid hb5
        have cE := Same_eq A5 B1 c5 d1' x.2 w5 hbr5.ba p3.ba (by rw [HM.out]; omega)
        rw [HM.out] at cE
        have CE := Lib.hid cE
        clear hHeld hbr5 p3 ha5 hal5 hb5 hHS CR cE
        go_wp2_with fail
        refine (CE.out).mono ?_
        rintro e w6 ⟨rfl, hb6⟩
        have hb66 := HB5.out.trans (hb6.mono HB5.out.size)
        obtain ⟨p1', p2', _⟩ := KS.out _ hb66
        have HB6 := Lib.hid hb66
        have hwr : IntKind.i64.wrap ((x.1 : Int) + (m : Int)) = ((en x : Nat) : Int) := HWR.out
        clear p1 p2 hb6 hb66 CE KS d2 d3
        go_wp2_with fail
        go_quiet (fail)
        go_wp2_with fail
        go_roundg (gk - 1)
        case measure => have := HIG.out; omega
        case rel => exact ⟨i + 1, _, rfl, by rw [Int.natCast_succ], by have := HIG.out; omega, HNX.out, hE2, HBW.out.trans ((HB6.out.trans (drewN_b _ _)).mono HBW.out.size)⟩
      · have d1 : decide ((i : Int) < (n : Int)) = false := by simp; omega
        have HAW := Lib.hid (HA2.out.below hbw)
        have d2 : decide (E ≤ (s.size : Int)) = true := by simp; omega
        clear hbw hE hig
        go_wp2_with fail
        refine (LSize HAW.out).mono ?_
        rintro e w3 ⟨rfl, rfl⟩
        go_wp2_with fail
        refine (works_calls _).mono ?_
        rintro e w10 ⟨rfl, hb10⟩
        go_wp2
        go_ret
        exact ⟨rfl, HAW.out.b.trans (hb10.mono HAW.out.b.size)⟩
end Go.Proofs.Ytbnkiefchbcfgaa.U
