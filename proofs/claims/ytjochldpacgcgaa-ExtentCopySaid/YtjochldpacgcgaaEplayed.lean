/- extent: acts, the first 60, on both. -/
import Derived.Test.YtjochldpacgcgaaEact
set_option linter.unusedVariables false
set_option linter.unusedSimpArgs false
namespace Go.Proofs.Ytjochldpacgcgaa.U
open Go.RowKit Go.Proofs Go.Lib Go.Proofs.YtjochldpacgcgaaW.PrintWords Go.Proofs.Ytjochldpacgcgaa.PR

structure ActV where
  d : Int
  p : Int
  n : Int
  A : Option Addr
  bs : List Int
  ca : Nat
/-- A row of acts that is read. -/
def AR (w : World) (A : Option Addr) (l : List ActV) : Prop :=
  0 < l.length → ∃ g o, A = some ⟨g, o, none⟩ ∧ g < w.heap.size ∧ ∀ j a, l[j]? = some a →
    w.cell? ⟨g, o + j * 4, none⟩ = some (.int .i64 a.d) ∧ w.cell? ⟨g, o + j * 4 + 1, none⟩ = some (.int .i64 a.p) ∧ w.cell? ⟨g, o + j * 4 + 2, none⟩ = some (.int .i64 a.n) ∧ w.cell? ⟨g, o + j * 4 + 3, none⟩ = some (.slice a.A a.bs.length a.ca) ∧
      BA w a.A a.ca a.bs ∧ a.n ≤ 9223372036854775807
set_option maxHeartbeats 16000000 in
set_option maxRecDepth 1000000 in
theorem played_calls (A : Option Addr) (c : Nat) (l : List ActV) (w : World) (h : AR w A l) (hl : l.length ≤ 4611686018427387904) (hlb : ∀ a ∈ l, a.bs.length ≤ 4611686018427387904) :
    Calls Try.prog 11 #[.slice A l.length c] w fun e w' => ∃ D R, e = .returned (.tuple #[.pointer (some ⟨D, 0, none⟩), .pointer (some ⟨R, 0, none⟩), .bool true]) ∧ After w w.heap.size D R w' := by
  have C1 := Lib.hid (New_calls (N := fun _ => False) w)
  generalize hn : l.length = n at *
  have HN := Lib.hid hn
  have HAR := Lib.hid h
  have HLB := Lib.hid hlb
  clear h hn hlb
  go_enter Try.func11, Try.ntmps11
  go_wp2_with fail
  refine (C1.out).mono ?_
  rintro e w1 ⟨rfl, hd1, hb1⟩
  have hbx : Below w1.heap.size w1 (w1.alloc (.cells #[.slice none 0 0, .slice none 0 0] 53)) := (Below.refl _ _).alloc (Nat.le_refl _) _
  have hR := heap_alloc_new w1 (.cells #[.slice none 0 0, .slice none 0 0] 53)
  obtain ⟨wx, hwx⟩ : ∃ wx, w1.alloc (.cells #[.slice none 0 0, .slice none 0 0] 53) = wx := ⟨_, rfl⟩
  rw [hwx] at hbx hR
  have hp : Pair wx w.heap.size w.heap.size w1.heap.size := by
    refine ⟨0, [], none, 0, [], [], .slice none 0 0, .slice none 0 0, ⟨?_, ⟨hR, ⟨rfl, .inl ⟨rfl, rfl⟩⟩, ⟨rfl, .inl ⟨rfl, rfl⟩⟩⟩, Rel.nil, Nat.zero_le _, Nat.le_refl _, fun L e => (by cases e), hb1.size⟩⟩
    have h1 := hd1.below hbx
    exact ⟨h1.1, .inl ⟨rfl, rfl, rfl⟩⟩
  have HP := Lib.hid hp
  have HB := Lib.hid (hb1.trans (hbx.mono hb1.size))
  obtain ⟨D, hD⟩ : ∃ D, w.heap.size = D := ⟨_, rfl⟩
  obtain ⟨R, hR2⟩ : ∃ R, w1.heap.size = R := ⟨_, rfl⟩
  rw [hD] at HP HB
  rw [hR2] at HP
  have HD := Lib.hid hD
  clear hp hbx hR hd1 hb1 C1
  go_wp2_with fail
  clear hwx hR2
  go_loopg [7] n (fun g v7 wr => ∃ i : Nat, v7 = .int .i64 (i : Int) ∧ i + g = n ∧ Pair wr D D R ∧ Below D w wr)
  case atStart => exact ⟨0, rfl, Nat.zero_add _, HP.out, HB.out⟩
  case round =>
    obtain ⟨i, rfl, hig, hpr, hbw⟩ := hrel
    have HPR := Lib.hid hpr
    have HBW := Lib.hid hbw
    have HIG := Lib.hid hig
    clear hpr hbw HP HB
    by_cases hgo : i < n ∧ i < 60
    · obtain ⟨hin, hi6⟩ := hgo
      have d1 : decide ((i : Int) < (n : Int)) = true := by simp; omega
      have d2 : decide ((i : Int) < 60) = true := by simp; omega
      have i1 : (i : Int) < (n : Int) := by omega
      obtain ⟨g, o, rfl, hg, hcell⟩ := HAR.out (by rw [HN.out]; omega)
      obtain ⟨a, ha⟩ : ∃ a, l[i]? = some a := ⟨_, List.getElem?_eq_getElem (by rw [HN.out]; exact hin)⟩
      obtain ⟨r1, r2, r3, r4, r5, r6⟩ := hcell i a ha
      have r7 := HLB.out a (List.mem_of_getElem? ha)
      have hgD : g < D := by have := HD.out; omega
      have hbl : a.bs.length ≤ 4611686018427387904 := r7
      have hKS : ∀ w', Below D w w' → w'.cell? ⟨g, o + i * 4, none⟩ = some (.int .i64 a.d) ∧ w'.cell? ⟨g, o + i * 4 + 1, none⟩ = some (.int .i64 a.p) ∧ w'.cell? ⟨g, o + i * 4 + 2, none⟩ = some (.int .i64 a.n) ∧ w'.cell? ⟨g, o + i * 4 + 3, none⟩ = some (.slice a.A a.bs.length a.ca) := fun w' hb =>
        ⟨(hb.cell (p := ⟨g, o + i * 4, none⟩) hgD).trans r1, (hb.cell (p := ⟨g, o + i * 4 + 1, none⟩) hgD).trans r2, (hb.cell (p := ⟨g, o + i * 4 + 2, none⟩) hgD).trans r3, (hb.cell (p := ⟨g, o + i * 4 + 3, none⟩) hgD).trans r4⟩
      have hba : 0 < a.bs.length → ∀ g' o', a.A = some ⟨g', o', none⟩ → g' < D := fun h0 g' o' e => by
        obtain ⟨g2, o2, e2, hg2, _⟩ := r5.2 h0
        rw [e2] at e
        injection e with e
        injection e with e
        have := HD.out
        omega
      have hB5 : ∀ w', Below D w w' → BA w' a.A a.ca a.bs := fun w' hb => by
        refine ⟨r5.1, fun h0 => ?_⟩
        obtain ⟨g2, o2, e2, hg2, hc2⟩ := r5.2 h0
        refine ⟨g2, o2, e2, Nat.lt_of_lt_of_le hg2 hb.size, fun j u hj => ?_⟩
        rw [← hc2 j u hj, Addr.add_lit]
        exact hb.cell (p := ⟨g2, o2 + j, none⟩) (by have := HD.out; show g2 < D; omega)
      have hbd := HBW.out.trans (below_drew1 (Below.refl D wr))
      have CA := Lib.hid (act_calls D D R a.d a.p a.n a.A a.bs a.ca wr.drew (HPR.out.below (below_drew1 (Below.refl _ _))) (by have := HD.out; have := hbd.size; omega) (hB5 _ hbd) hba hbl r6)
      have KS := Lib.hid hKS
      have hS0 := hKS _ hbd
      clear hKS hB5 hba ha hcell r1 r2 r3 r4 r5 r6 r7 hg hig
      go_wp2_with fail
      refine AnyL.start (fun w' => w'.cell? ⟨g, o + i * 4, none⟩ = some (.int .i64 a.d) ∧ w'.cell? ⟨g, o + i * 4 + 1, none⟩ = some (.int .i64 a.p) ∧ w'.cell? ⟨g, o + i * 4 + 2, none⟩ = some (.int .i64 a.n) ∧ w'.cell? ⟨g, o + i * 4 + 3, none⟩ = some (.slice a.A a.bs.length a.ca)) 99 (by kernel_rfl) hS0 (fun hHeld => ?_)
      refine AnyL.take (i := 0) (v := ?vy0) rfl (by kernel_rfl) (by kernel_rfl) (by kernel_rfl) (by kernel_rfl) (fun _ _ _ h => h) (by assumption) (Or.inl ⟨by rfl, ?y0⟩) ?ry0
      case y0 => (intro w hSw; (try dsimp only at hSw); go_simp; try with_reducible rfl)
      try simp only [Act.put, List.setIfInBounds_toArray, List.set_cons_zero, List.set_cons_succ]
      refine AnyL.take (i := 1) (v := ?vy1) rfl (by kernel_rfl) (by kernel_rfl) (by kernel_rfl) (by kernel_rfl) (fun _ _ _ h => h) (by assumption) (Or.inl ⟨by rfl, ?y1⟩) ?ry1
      case y1 => (intro w hSw; (try dsimp only at hSw); go_simp; try with_reducible rfl)
      try simp only [Act.put, List.setIfInBounds_toArray, List.set_cons_zero, List.set_cons_succ]
      refine AnyL.take (i := 2) (v := ?vy2) rfl (by kernel_rfl) (by kernel_rfl) (by kernel_rfl) (by kernel_rfl) (fun _ _ _ h => h) (by assumption) (Or.inl ⟨by rfl, ?y2⟩) ?ry2
      case y2 => (intro w hSw; (try dsimp only at hSw); go_simp; try with_reducible rfl)
      try simp only [Act.put, List.setIfInBounds_toArray, List.set_cons_zero, List.set_cons_succ]
      refine AnyL.take (i := 3) (v := ?vy3) rfl (by kernel_rfl) (by kernel_rfl) (by kernel_rfl) (by kernel_rfl) (fun _ _ _ h => h) (by assumption) (Or.inl ⟨by rfl, ?y3⟩) ?ry3
      case y3 => (intro w hSw; (try dsimp only at hSw); go_simp; try with_reducible rfl)
      try simp only [Act.put, List.setIfInBounds_toArray, List.set_cons_zero, List.set_cons_succ]
      refine AnyL.take (i := 4) (v := ?vy4) rfl (by kernel_rfl) (by kernel_rfl) (by kernel_rfl) (by kernel_rfl) (fun _ _ _ h => h) (by assumption) (Or.inl ⟨by rfl, ?y4⟩) ?ry4
      case y4 => (intro w hSw; (try dsimp only at hSw); go_simp; try with_reducible rfl)
      try simp only [Act.put, List.setIfInBounds_toArray, List.set_cons_zero, List.set_cons_succ]
      refine AnyL.take (i := 5) (v := ?vy5) rfl (by kernel_rfl) (by kernel_rfl) (by kernel_rfl) (by kernel_rfl) (fun _ _ _ h => h) (by assumption) (Or.inl ⟨by rfl, ?y5⟩) ?ry5
      case y5 => (intro w hSw; (try dsimp only at hSw); go_simp; try with_reducible rfl)
      try simp only [Act.put, List.setIfInBounds_toArray, List.set_cons_zero, List.set_cons_succ]
      refine AnyL.one (i := 6) (by kernel_rfl) rfl (fun K hK => ?_)
      go_simp
      refine (CA.out).mono ?_
      rintro e w5 ⟨rfl, hp5, hb5⟩
      have hbw5 := hbd.trans hb5
      refine hK.out _ _ (.inr (KS.out _ hbw5)) ?_
      clear hHeld hK K
      have hHeld := KS.out _ hbw5
      try simp only [Act.put, List.setIfInBounds_toArray, List.set_cons_zero, List.set_cons_succ]
      obtain ⟨size, xs, lA, cl, B, Z, vB, vZ, h2⟩ := hp5
      obtain ⟨AB, cB, rfl, _, _⟩ := own_slice_form h2.r.rb
      obtain ⟨qB, _, _, _, _⟩ := h2.r.cells
      rw [h2.rel.bl] at qB
      have CS := Lib.hid (Size_calls D size xs lA cl w5 h2.d)
      have HFIN : Hid (Pair w5 D D R ∧ Below D w w5) := Lib.hid ⟨⟨_, _, _, _, _, _, _, _, h2⟩, hbw5⟩
      clear h2 hb5 hbw5 CA hS0 hbd
      refine AnyL.take (i := 7) (v := ?vy7) rfl (by kernel_rfl) (by kernel_rfl) (by kernel_rfl) (by kernel_rfl) (fun _ _ _ h => h) (by assumption) (Or.inl ⟨by rfl, ?y7⟩) ?ry7
      case y7 => (intro w hSw; (try dsimp only at hSw); go_simp; try with_reducible rfl)
      try simp only [Act.put, List.setIfInBounds_toArray, List.set_cons_zero, List.set_cons_succ]
      refine AnyL.take (i := 8) (v := ?vy8) rfl (by kernel_rfl) (by kernel_rfl) (by kernel_rfl) (by kernel_rfl) (fun _ _ _ h => h) (by assumption) (Or.inl ⟨by rfl, ?y8⟩) ?ry8
      case y8 => (intro w hSw; (try dsimp only at hSw); go_simp; try with_reducible rfl)
      try simp only [Act.put, List.setIfInBounds_toArray, List.set_cons_zero, List.set_cons_succ]
      refine AnyL.take (i := 9) (v := ?vy9) rfl (by kernel_rfl) (by kernel_rfl) (by kernel_rfl) (by kernel_rfl) (fun _ _ _ h => h) (by assumption) (Or.inl ⟨by rfl, ?y9⟩) ?ry9
      case y9 => (intro w hSw; (try dsimp only at hSw); go_simp; try with_reducible rfl)
      try simp only [Act.put, List.setIfInBounds_toArray, List.set_cons_zero, List.set_cons_succ]
      refine AnyL.take (i := 11) (v := ?vy11) rfl (by kernel_rfl) (by kernel_rfl) (by kernel_rfl) (by kernel_rfl) (fun _ _ _ h => h) (by assumption) (Or.inl ⟨by rfl, ?y11⟩) ?ry11
      case y11 => (intro w hSw; (try dsimp only at hSw); go_simp; try with_reducible rfl)
      try simp only [Act.put, List.setIfInBounds_toArray, List.set_cons_zero, List.set_cons_succ]
      refine AnyL.take (i := 12) (v := ?vy12) rfl (by kernel_rfl) (by kernel_rfl) (by kernel_rfl) (by kernel_rfl) (fun _ _ _ h => h) (by assumption) (Or.inl ⟨by rfl, ?y12⟩) ?ry12
      case y12 => (intro w hSw; (try dsimp only at hSw); go_simp; try with_reducible rfl)
      try simp only [Act.put, List.setIfInBounds_toArray, List.set_cons_zero, List.set_cons_succ]
      refine AnyL.take (i := 13) (v := ?vy13) rfl (by kernel_rfl) (by kernel_rfl) (by kernel_rfl) (by kernel_rfl) (fun _ _ _ h => h) (by assumption) (Or.inl ⟨by rfl, ?y13⟩) ?ry13
      case y13 => (intro w hSw; (try dsimp only at hSw); go_simp; try with_reducible rfl)
      try simp only [Act.put, List.setIfInBounds_toArray, List.set_cons_zero, List.set_cons_succ]
      refine AnyL.two (i := 10) (j := 14) (by kernel_rfl) rfl rfl (fun K hK => ?_) (fun K hK => ?_)
      · go_simp
        refine (CS.out).mono ?_
        rintro e w6 ⟨rfl, rfl⟩
        refine hK.out _ _ (.inr hHeld) ?_
        clear hK K
        try simp only [Act.put, List.setIfInBounds_toArray, List.set_cons_zero, List.set_cons_succ]
        refine AnyL.one (i := 14) (by kernel_rfl) rfl (fun K hK => ?_)
        go_simp
        refine hK.out _ _ (.inr hHeld) ?_
        clear hK K
        try simp only [Act.put, List.setIfInBounds_toArray, List.set_cons_zero, List.set_cons_succ]
        refine AnyL.take (i := 15) (v := ?va15) rfl (by kernel_rfl) (by kernel_rfl) (by kernel_rfl) (by kernel_rfl) (fun _ _ _ h => h) (by assumption) (Or.inl ⟨by rfl, ?a15⟩) ?ra15
        case a15 => (intro w hSw; (try dsimp only at hSw); go_simp; try with_reducible rfl)
        try simp only [Act.put, List.setIfInBounds_toArray, List.set_cons_zero, List.set_cons_succ]
        refine AnyL.take (i := 16) (v := ?va16) rfl (by kernel_rfl) (by kernel_rfl) (by kernel_rfl) (by kernel_rfl) (fun _ _ _ h => h) (by assumption) (Or.inl ⟨by rfl, ?a16⟩) ?ra16
        case a16 => (intro w hSw; (try dsimp only at hSw); go_simp; try with_reducible rfl)
        try simp only [Act.put, List.setIfInBounds_toArray, List.set_cons_zero, List.set_cons_succ]
        refine AnyL.take (i := 17) (v := ?va17) rfl (by kernel_rfl) (by kernel_rfl) (by kernel_rfl) (by kernel_rfl) (fun _ _ _ h => h) (by assumption) (Or.inl ⟨by rfl, ?a17⟩) ?ra17
        case a17 => (intro w hSw; (try dsimp only at hSw); go_simp; try with_reducible rfl)
        try simp only [Act.put, List.setIfInBounds_toArray, List.set_cons_zero, List.set_cons_succ]
        refine AnyL.done (by kernel_rfl) ?_ _
        clear hHeld KS CS
        go_wp2_with fail
        go_roundg (gk - 1)
        case measure => have := HIG.out; omega
        case rel => exact ⟨i + 1, by rw [Int.natCast_succ], by have := HIG.out; omega, HFIN.out.1, HFIN.out.2⟩
      · go_simp
        refine hK.out _ _ (.inr hHeld) ?_
        clear hK K
        try simp only [Act.put, List.setIfInBounds_toArray, List.set_cons_zero, List.set_cons_succ]
        refine AnyL.take (i := 15) (v := ?vb15) rfl (by kernel_rfl) (by kernel_rfl) (by kernel_rfl) (by kernel_rfl) (fun _ _ _ h => h) (by assumption) (Or.inl ⟨by rfl, ?b15⟩) ?rb15
        case b15 => (intro w hSw; (try dsimp only at hSw); go_simp; try with_reducible rfl)
        try simp only [Act.put, List.setIfInBounds_toArray, List.set_cons_zero, List.set_cons_succ]
        refine AnyL.one (i := 10) (by kernel_rfl) rfl (fun K hK => ?_)
        go_simp
        refine (CS.out).mono ?_
        rintro e w6 ⟨rfl, rfl⟩
        refine hK.out _ _ (.inr hHeld) ?_
        clear hK K
        try simp only [Act.put, List.setIfInBounds_toArray, List.set_cons_zero, List.set_cons_succ]
        refine AnyL.take (i := 16) (v := ?vb16) rfl (by kernel_rfl) (by kernel_rfl) (by kernel_rfl) (by kernel_rfl) (fun _ _ _ h => h) (by assumption) (Or.inl ⟨by rfl, ?b16⟩) ?rb16
        case b16 => (intro w hSw; (try dsimp only at hSw); go_simp; try with_reducible rfl)
        try simp only [Act.put, List.setIfInBounds_toArray, List.set_cons_zero, List.set_cons_succ]
        refine AnyL.take (i := 17) (v := ?vb17) rfl (by kernel_rfl) (by kernel_rfl) (by kernel_rfl) (by kernel_rfl) (fun _ _ _ h => h) (by assumption) (Or.inl ⟨by rfl, ?b17⟩) ?rb17
        case b17 => (intro w hSw; (try dsimp only at hSw); go_simp; try with_reducible rfl)
        try simp only [Act.put, List.setIfInBounds_toArray, List.set_cons_zero, List.set_cons_succ]
        refine AnyL.done (by kernel_rfl) ?_ _
        clear hHeld KS CS
        go_wp2_with fail
        go_roundg (gk - 1)
        case measure => have := HIG.out; omega
        case rel => exact ⟨i + 1, by rw [Int.natCast_succ], by have := HIG.out; omega, HFIN.out.1, HFIN.out.2⟩
    · have hex : n ≤ i ∨ 60 ≤ i := by omega
      have hpr := HPR.out
      obtain ⟨size, xs, lA, cl, B, Z, vB, vZ, h2⟩ := hpr
      have CE := Lib.hid (Extents_calls D size xs lA cl wr h2.d h2.rel.ok h2.rel.top h2.small)
      have HT := Lib.hid h2
      clear h2 hig
      have hex2 : n ≤ i ∨ (i < n ∧ 60 ≤ i) := by omega
      clear hex hgo
      rcases hex2 with hex | ⟨hex1, hex⟩
      case' inl =>
        have d1 : decide ((i : Int) < (n : Int)) = false := by simp; omega
        go_wp2_with fail
        clear d1
      case' inr =>
        have d1 : decide ((i : Int) < (n : Int)) = true := by simp; omega
        have d2 : decide ((i : Int) < 60) = false := by simp; omega
        go_wp2_with fail
        clear d1 d2
      all_goals
        refine (CE.out).mono ?_
        rintro e w5 ⟨v5, rfl, hx5, hb5⟩
        have ht5 := HT.out.below hb5
        have HT5 := Lib.hid ht5
        have HX5 := Lib.hid hx5
        have HB5 := Lib.hid (HBW.out.trans (hb5.mono (by have := HD.out; have := HBW.out.size; omega)))
        have CR := Lib.hid (Rextents_calls D R size xs B Z vB vZ w5 ht5.r ht5.rel ht5.small)
        obtain ⟨A5, c5, rfl⟩ := hx5.length
        clear ht5 hx5 hb5 CE
        go_wp2_with fail
        refine (CR.out).mono ?_
        rintro e w6 ⟨v6, rfl, hx6, hb6⟩
        have hlx := ok_len' HT5.out.rel.ok HT5.out.rel.top
        have hsm := HT5.out.small
        have CX := Lib.hid (Ext_same _ _ _ _ xs w6 (HX5.out.below hb6) hx6 (by omega) (fun x hx => by
          have h1 := HT5.out.rel.top x hx
          have h2 : en x = x.1 + x.2.length := rfl
          omega))
        have HT6 := Lib.hid (HT5.out.below hb6)
        have HB6 := Lib.hid (HB5.out.trans (hb6.mono (by have := HD.out; have := HB5.out.size; omega)))
        obtain ⟨A6, c6, rfl⟩ := hx6.length
        clear hx6 hb6 CR hlx hsm
        go_wp2_with fail
        refine (CX.out).mono ?_
        rintro e w7 ⟨rfl, hb7⟩
        have HFIN : Hid (After w w.heap.size D R w7) := by
          have h1 := HB6.out.trans (hb7.mono (by have := HD.out; have := HB6.out.size; omega))
          have h2 := HD.out
          subst h2
          exact Lib.hid ⟨⟨_, _, _, _, _, _, _, _, HT6.out.below hb7⟩, h1⟩
        clear hb7 CX
        go_wp2_with fail
        go_ret3
        exact ⟨D, R, rfl, HFIN.out⟩
end Go.Proofs.Ytjochldpacgcgaa.U
