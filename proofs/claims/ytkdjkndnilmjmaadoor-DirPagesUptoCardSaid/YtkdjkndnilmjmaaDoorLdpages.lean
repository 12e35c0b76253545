/- The law DirPages: a directory, told part by part, from the last name on, tells each name once, rising. -/
import Derived.Test.YtkdjkndnilmjmaaDoorLdpplain
import Derived.IntWalk
set_option linter.unusedVariables false
set_option linter.unusedSimpArgs false
namespace Go.Proofs.YtkdjkndnilmjmaaDoor.U
open Go.RowKit Go.Proofs Go.Lib Go.Proofs.YtkdjkndnilmjmaaDoorW.PrintWords

theorem u8_nat {n : Int} (h : (Lit.int .u8 n).wf = true) : ∃ m : Nat, n = (m : Int) ∧ m ≤ 255 := by
  simp only [Lit.wf, Bool.and_eq_true, decide_eq_true_eq, show IntKind.u8.min = 0 from by decide, show IntKind.u8.max = 255 from by decide] at h
  exact ⟨n.toNat, by omega, by omega⟩
set_option maxHeartbeats 16000000 in
set_option maxRecDepth 1000000 in
theorem DirPages_walk (A : Option Addr) (c : Nat) (l : List ActV) (k : Int) (w : World) (h : AR w A l) (hl : l.length ≤ 1048576) (hz : AOk l) (hk : (Lit.int .u8 k).wf = true) (hT : Tabs w) :
    Calls Tryd.prog 5 #[.slice A l.length c, .int .u8 k] w fun e w' => e = .returned (.bool true) ∧ Below w.heap.size w w' := by
  obtain ⟨b, rfl, hb255⟩ := u8_nat hk
  have C1 := Lib.hid (played_calls A c l w h (by omega) hz hT)
  clear h hl hz hT hk
  go_enter Tryd.func5, Tryd.ntmps5
  go_wp2_with fail
  refine (C1.out).mono ?_
  rintro e w1 ⟨D, R, rfl, M, L, hx, he⟩
  have hg := hx.1.good
  have c2 := DList hx.1 (by omega) he ⟨#[42]⟩ ⟨#[]⟩ 1048576 (by decide) (by decide)
  have HG := Lib.hid hg
  have HE := Lib.hid he
  have HP := Lib.hid hx.1
  clear hg hx he C1
  by_cases hE : errL ps L = 0
  · obtain ⟨a1, a2, a3⟩ := all_is HG.out hE (Nat.le_trans HG.out.len (by decide))
    obtain ⟨N, hN⟩ : ∃ N, L.length = N := ⟨_, rfl⟩
    have hN60 : N ≤ 60 := by rw [← hN]; exact HG.out.len
    have C2 : Hid (Calls Tryd.prog 12 #[.pointer (some ⟨D, 0, none⟩), .string ⟨#[42]⟩, .string ⟨#[]⟩, .int .i64 1048576] w1 fun e w' => ∃ A c, e = .returned (.tuple #[.slice A N c, .bool false, .int .i64 0]) ∧ TR w' A c (nms L) ∧ Below w1.heap.size w1 w') := Lib.hid (c2.mono fun e w' h => by
      obtain ⟨A', c', e1, h1, _, h2⟩ := h.tr
      rw [show lnam L ⟨#[42]⟩ ⟨#[]⟩ 1048576 = L from a2] at e1 h1
      rw [show lmor L ⟨#[42]⟩ ⟨#[]⟩ 1048576 = false from a3, show lerr L ⟨#[42]⟩ ⟨#[]⟩ 1048576 = 0 from a1, nms_len, hN] at e1
      exact ⟨A', c', e1, h1, h2⟩)
    have HN := Lib.hid hN
    have HE0 := Lib.hid hE
    clear c2 a1 a2 a3 hN hE
    go_wp2_with fail
    refine (C2.out).mono ?_
    rintro e w2 ⟨A2, c2, rfl, ht2, hb2⟩
    have c3 := DLen (HP.out.below hb2)
    rw [HN.out] at c3
    have C3 := Lib.hid c3
    have HT2 := Lib.hid ht2
    have HE2 := Lib.hid (HE.out.on hb2)
    have HP2 := Lib.hid (HP.out.below hb2)
    have HB2 := Lib.hid hb2
    clear ht2 hb2 c3 C2
    go_wp2_with fail
    refine (C3.out).mono ?_
    rintro e w3 ⟨rfl, rfl⟩
    clear C3
    go_wp2_with fail
    go_loopg [11, 12, 13] 70 (fun g v11 v12 v13 wr => ∃ i j : Nat, v13 = .int .i64 (i : Int) ∧ i + g = 70 ∧ j = i * (b % 9 + 1) ∧ (j < N ∨ i = 0) ∧ v12 = .string (aft L j) ∧ wr.ownsRow w3.heap.size 9 1 v11 j (strs (L.take j)) ∧ Below w3.heap.size w3 wr)
    case atStart => exact ⟨0, 0, rfl, rfl, by rw [Nat.zero_mul], .inr rfl, rfl, World.ownsRow_nil _ _ _ _, Below.refl _ _⟩
    case round =>
      obtain ⟨i, j, rfl, hig, hj, hjn, rfl, hown, hbw⟩ := hrel
      have hi60 : i < 60 ∨ i = 0 := by
        rcases hjn with h1 | h1
        · left
          have : i ≤ i * (b % 9 + 1) := Nat.le_mul_of_pos_right i (Nat.succ_pos _)
          omega
        · exact .inr h1
      have d1 : decide ((i : Int) < 70) = true := by simp; omega
      have i1 : (i : Int) < 70 := by omega
      obtain ⟨A7, c7, rfl, _⟩ := own_form hown
      have hjN : j ≤ L.length := by
        rcases hjn with h1 | h1
        · rw [HN.out]; omega
        · rw [hj, h1, Nat.zero_mul]; exact Nat.zero_le _
      obtain ⟨m, hm⟩ : ∃ m, b % 9 + 1 = m := ⟨_, rfl⟩
      have hat := aft_text HG.out hjN
      have hpt := part_is HG.out HE0.out hjN m
      obtain ⟨q, hq⟩ : ∃ q, aft L j = q := ⟨_, rfl⟩
      rw [hq] at hat hpt
      rw [hq]
      have C4 := Lib.hid (fun most => (DList (HP2.out.below hbw) (by omega) (HE2.out.on hbw) ⟨#[42]⟩ q most (by decide) hat.2.1))
      have HPT := Lib.hid hpt
      have HIG := Lib.hid hig
      have HJ := Lib.hid hj
      have HOW := Lib.hid hown
      have HBW := Lib.hid hbw
      have HM := Lib.hid hm
      have HQ := Lib.hid hq
      clear hat hpt hig hj hown hbw hm hq
      go_wp2_with fail
      refine (C4.out _).mono ?_
      rintro e w4 h4
      have hmm : (1 + (b : Int) % 9) = (m : Int) := by have := HM.out; omega
      rw [hmm] at h4
      obtain ⟨A5, c5, e5, ht5, ho5, hb5⟩ := h4.tr
      have hPT := HPT.out
      rw [show lnam L ⟨#[42]⟩ q (m : Int) = (L.drop j).take m from hPT.2.1] at e5 ht5 ho5
      rw [show lmor L ⟨#[42]⟩ q (m : Int) = decide (m < L.length - j) from hPT.2.2, show lerr L ⟨#[42]⟩ q (m : Int) = 0 from hPT.1, HN.out] at e5
      obtain ⟨P, hP⟩ : ∃ P, (L.drop j).take m = P := ⟨_, rfl⟩
      have hPl : P.length = min m (N - j) := by rw [← hP, List.length_take, List.length_drop, HN.out]
      rw [hP, nms_len] at e5 ho5
      rw [hP] at ht5
      obtain ⟨n5, hn5⟩ : ∃ n5, P.length = n5 := ⟨_, rfl⟩
      rw [hn5] at e5 ho5 hPl
      have hjN2 : j ≤ N := by rw [← HN.out]; exact hjN
      have hmpos : 1 ≤ m := by have := HM.out; omega
      have hbw5 := HBW.out.trans (hb5.mono HBW.out.size)
      have hlj : (L.take j).length = j := by rw [List.length_take, HN.out]; have := HN.out; omega
      obtain ⟨vb, xb, r1b, hob, hgb⟩ := run_names w4 w3.heap.size 29 (.slice A7 j c7) (L.take j) P (.slice A5 n5 c5) wr.heap.size (by rw [hlj]; exact own_on HOW.out hb5) (by rw [hn5]; exact ho5) (by rw [hlj, hn5, hPl]; omega) hbw5.size
      have hbxb : Below w3.heap.size w3 xb := hbw5.grown hgb hbw5.size (fun r e => (HOW.out.lt r e).1)
      have htk : L.take j ++ P = L.take (j + m) := by rw [← hP, ← List.take_add]
      rw [htk] at hob
      have HRb := Lib.hid r1b
      have HOB := Lib.hid hob
      have HBX := Lib.hid hbxb
      have HT5 := Lib.hid ht5
      have HO5 := Lib.hid ho5
      have HGB := Lib.hid hgb
      have HPP := Lib.hid hP
      have HPL := Lib.hid hn5
      have HB5 := Lib.hid hb5
      clear h4 r1b hob hbxb ht5 ho5 hgb hP hb5 hbw5 htk hPT hlj C4
      subst e5
      by_cases hon : m < N - j
      · have hd : decide (m < N - j) = true := decide_eq_true hon
        rw [hd]
        obtain rfl : n5 = m := by omega
        have d2 : ((n5 : Int) == 0) = false := by simp; omega
        have d3 : ¬ (n5 : Int) = 0 := by omega
        have hjm : L[j + n5 - 1]? = some (L[j + n5 - 1]'(by rw [HN.out]; omega)) := List.getElem?_eq_getElem (by rw [HN.out]; omega)
        obtain ⟨x, hx⟩ : ∃ x, L[j + n5 - 1]? = some x := ⟨_, hjm⟩
        have hxa : aft L (j + n5) = x.name := by
          have h1 := aft_at hx
          rw [show j + n5 - 1 + 1 = j + n5 by omega] at h1
          exact h1
        obtain ⟨h51, h52, h53⟩ := HT5.out
        have hnl : (nms P).length = n5 := by rw [nms_len]; exact HPL.out
        obtain ⟨g5, o5, rfl, hg5, hc5⟩ := h53 (by rw [hnl]; omega)
        have hcell := hc5 (n5 - 1) x.name (by
          unfold nms
          rw [List.getElem?_map, ← HPP.out, List.getElem?_take, if_pos (by omega), List.getElem?_drop, show j + (n5 - 1) = j + n5 - 1 by omega, hx]
          rfl)
        have hgne : (Value.slice A7 j c7).ownBlock ≠ some g5 := fun e => by
          have h1 := (HOW.out.lt g5 e).2
          have h2 := (HO5.out.lt g5 (by
            obtain ⟨A', c', e', _, h3⟩ := own_form HO5.out
            injection e' with e1 _ _
            rcases h3 with ⟨h3, _⟩ | ⟨g', h3, _⟩
            · rw [h3] at e1; cases e1
            · rw [h3] at e1
              injection e1 with e1
              injection e1 with e1 e2
              subst e2
              simp [Value.ownBlock])).1
          omega
        have q5 : xb.cell? ⟨g5, o5 + (n5 - 1), none⟩ = some (.string x.name) := (World.cell?_of_block (a := ⟨g5, o5 + (n5 - 1), none⟩) (HGB.out.block g5 hg5 (fun e => hgne e.symm))).trans hcell
        have i2 : (0 : Int) ≤ (n5 : Int) - 1 := by omega
        have i3 : (n5 : Int) - 1 < (n5 : Int) := by omega
        have HXA := Lib.hid hxa
        have HND : Hid (j + n5 < N) := Lib.hid (by omega)
        clear hjm hx hxa h51 h52 h53 hnl hc5 hcell hgne hd hon hPl
        go_wp2_with (at_builtin; refine Lib.wpList_append_run _ rfl _ _ _ _ rfl _ _ rfl rfl _ _ HRb.out ?_)
        go_wp2_with fail
        go_roundg (gk - 1)
        case measure => have := HIG.out; omega
        case rel => exact ⟨i + 1, j + n5, by rw [Int.natCast_succ], by have := HIG.out; omega, by rw [HJ.out, Nat.succ_mul, HM.out], .inl HND.out, by rw [HXA.out], by
          have h1 := HOB.out
          rw [List.length_take, HN.out, Nat.min_eq_left (by have := HND.out; omega)] at h1
          exact h1, HBX.out⟩
      · have hd : decide (m < N - j) = false := decide_eq_false hon
        rw [hd]
        obtain rfl : n5 = N - j := by omega
        have hall : L.take (j + m) = L := List.take_of_length_le (by rw [HN.out]; omega)
        have ho8 := HOB.out
        rw [hall, HN.out] at ho8
        obtain ⟨A8, c8, hv8, ht8⟩ := own_tr (X := nms L) (by
          have h1 := ho8
          rw [show strs L = (nms L).map Value.string by simp [strs, nms]] at h1
          exact h1) (by rw [nms_len]; exact HN.out)
        subst hv8
        have HT8 := Lib.hid ht8
        obtain ⟨n5, hn5⟩ : ∃ n5, N - j = n5 := ⟨_, rfl⟩
        rw [hn5] at HRb ⊢
        clear hd hall ho8 ht8 hon hPl hn5 HO5 HPL HOB HGB
        go_upto_region 13 with fail
        go_cut [70] (fun v70 wx => v70 = .bool false ∧ wx = w4)
        case first =>
          by_cases h0 : n5 = 0
          · subst h0
            go_wp2_with fail
            go_meet
            exact ⟨rfl, rfl⟩
          · have d2 : ((n5 : Int) == 0) = false := by simp; omega
            have d3 : ¬ (n5 : Int) = 0 := by omega
            go_wp2_with fail
            go_meet
            exact ⟨rfl, rfl⟩
        case rest =>
          obtain ⟨rfl, rfl⟩ := hcut
          go_wp2_with (at_builtin; refine Lib.wpList_append_run _ rfl _ _ _ _ rfl _ _ rfl rfl _ _ HRb.out ?_)
          clear HRb
          go_wp2_with fail
          go_loopg [17] N (fun g v17 wx => ∃ k : Nat, v17 = .int .i64 ((k : Int) + 1) ∧ k + g = N ∧ Below xb.heap.size xb wx)
          case atStart => exact ⟨0, rfl, Nat.zero_add _, Below.refl _ _⟩
          case round =>
            obtain ⟨k, rfl, hkg, hbk⟩ := hrel
            have HBK := Lib.hid (HBX.out.trans (hbk.mono HBX.out.size))
            have HTK := Lib.hid (HT8.out.below hbk)
            have HKB := Lib.hid hbk
            have HKG := Lib.hid hkg
            clear hbk hkg
            by_cases hkN : k + 1 < N
            · have d9 : decide ((k : Int) + 1 < (N : Int)) = true := by simp; omega
              obtain ⟨x, hx⟩ : ∃ x, L[k]? = some x := ⟨_, List.getElem?_eq_getElem (by rw [HN.out]; omega)⟩
              obtain ⟨y, hy⟩ : ∃ y, L[k + 1]? = some y := ⟨_, List.getElem?_eq_getElem (by rw [HN.out]; omega)⟩
              have hah : ah x.name y.name = true := by
                obtain ⟨p1, p2⟩ := List.getElem?_eq_some_iff.1 hx
                obtain ⟨p3, p4⟩ := List.getElem?_eq_some_iff.1 hy
                have := List.pairwise_iff_getElem.1 HG.out.rise k (k + 1) p1 p3 (by omega)
                rw [p2, p4] at this
                exact this
              have hbd := HBK.out.trans ((below_drew1 (Below.refl wr.heap.size wr)).mono HBK.out.size)
              have hKS : ∀ W, Below w3.heap.size w3 W → ∃ g o, A2 = some ⟨g, o, none⟩ ∧ W.cell? ⟨g, o + k, none⟩ = some (.string x.name) ∧ W.cell? ⟨g, o + (k + 1), none⟩ = some (.string y.name) := fun W hW => by
                obtain ⟨_, _, h3⟩ := HT2.out.below hW
                obtain ⟨g, o, e1, _, h4⟩ := h3 (by rw [nms_len, HN.out]; omega)
                exact ⟨g, o, e1, h4 k _ (by unfold nms; rw [List.getElem?_map, hx]; rfl), h4 (k + 1) _ (by unfold nms; rw [List.getElem?_map, hy]; rfl)⟩
              obtain ⟨g, o, rfl, q1, q2⟩ := hKS _ hbd
              have KS : Hid (∀ W, Below w3.heap.size w3 W → W.cell? ⟨g, o + k, none⟩ = some (.string x.name) ∧ W.cell? ⟨g, o + (k + 1), none⟩ = some (.string y.name)) := Lib.hid (fun W hW => by
                obtain ⟨g', o', e1, h5, h6⟩ := hKS W hW
                injection e1 with e1
                injection e1 with e1 e2
                subst e1 e2
                exact ⟨h5, h6⟩)
              have cA := fun W => Ahead_calls x.name y.name W (by have := HG.out.sz x (List.mem_of_getElem? hx); omega) (by have := HG.out.sz y (List.mem_of_getElem? hy); omega)
              rw [show aheadB x.name.data.toList y.name.data.toList = true from hah] at cA
              have CA := Lib.hid cA
              have HBD := Lib.hid hbd
              have HBR := Lib.hid ((below_drew1 (Below.refl wr.heap.size wr)))
              have i4 : (k : Int) < (N : Int) := by omega
              have i5 : (k : Int) + 1 < (N : Int) := by omega
              have i6 : (0 : Int) ≤ (k : Int) + 1 := by omega
              have w1' : IntKind.i64.wrap (k : Int) = (k : Int) := IntWalk.i64_in _ (by omega)
              have hS0 := And.intro q1 q2
              clear hx hy hah cA hbd hKS q1 q2
              go_wp2_with fail
              refine AnyL.start (fun w' => w'.cell? ⟨g, o + k, none⟩ = some (.string x.name) ∧ w'.cell? ⟨g, o + (k + 1), none⟩ = some (.string y.name)) 99 (by kernel_rfl) hS0 (fun hHeld => ?_)
              refine AnyL.take (i := 0) (v := ?vy0) rfl (by kernel_rfl) (by kernel_rfl) (by kernel_rfl) (by kernel_rfl) (fun _ _ _ h => h) (by assumption) (Or.inl ⟨by rfl, ?y0⟩) ?ry0
              case y0 => (intro w hSw; (try dsimp only at hSw); go_simp; try with_reducible rfl)
              try simp only [Act.put, List.setIfInBounds_toArray, List.set_cons_zero, List.set_cons_succ]
              refine AnyL.take (i := 1) (v := ?vy1) rfl (by kernel_rfl) (by kernel_rfl) (by kernel_rfl) (by kernel_rfl) (fun _ _ _ h => h) (by assumption) (Or.inl ⟨by rfl, ?y1⟩) ?ry1
              case y1 => (intro w hSw; (try dsimp only at hSw); go_simp; try with_reducible rfl)
              try simp only [Act.put, List.setIfInBounds_toArray, List.set_cons_zero, List.set_cons_succ]
              refine AnyL.take (i := 2) (v := ?vy2) rfl (by kernel_rfl) (by kernel_rfl) (by kernel_rfl) (by kernel_rfl) (fun _ _ _ h => h) (by assumption) (Or.inl ⟨by rfl, ?y2⟩) ?ry2
              case y2 => (intro w hSw; (try dsimp only at hSw); go_simp; try with_reducible rfl)
              try simp only [Act.put, List.setIfInBounds_toArray, List.set_cons_zero, List.set_cons_succ]
              refine AnyL.take (i := 3) (v := ?vy3) rfl (by kernel_rfl) (by kernel_rfl) (by kernel_rfl) (by kernel_rfl) (fun _ _ _ h => h) (by assumption) (Or.inl ⟨by rfl, ?y3⟩) ?ry3
              case y3 => (intro w hSw; (try dsimp only at hSw); go_simp; try with_reducible rfl)
              try simp only [Act.put, List.setIfInBounds_toArray, List.set_cons_zero, List.set_cons_succ]
              refine AnyL.take (i := 4) (v := ?vy4) rfl (by kernel_rfl) (by kernel_rfl) (by kernel_rfl) (by kernel_rfl) (fun _ _ _ h => h) (by assumption) (Or.inl ⟨by rfl, ?y4⟩) ?ry4
              case y4 => (intro w hSw; (try dsimp only at hSw); go_simp; try with_reducible rfl)
              try simp only [Act.put, List.setIfInBounds_toArray, List.set_cons_zero, List.set_cons_succ]
              refine AnyL.take (i := 5) (v := ?vy5) rfl (by kernel_rfl) (by kernel_rfl) (by kernel_rfl) (by kernel_rfl) (fun _ _ _ h => h) (by assumption) (Or.inl ⟨by rfl, ?y5⟩) ?ry5
              case y5 => (intro w hSw; (try dsimp only at hSw); go_simp; try with_reducible rfl)
              try simp only [Act.put, List.setIfInBounds_toArray, List.set_cons_zero, List.set_cons_succ]
              refine AnyL.take (i := 6) (v := ?vy6) rfl (by kernel_rfl) (by kernel_rfl) (by kernel_rfl) (by kernel_rfl) (fun _ _ _ h => h) (by assumption) (Or.inl ⟨by rfl, ?y6⟩) ?ry6
              case y6 => (intro w hSw; (try dsimp only at hSw); go_simp; try with_reducible rfl)
              try simp only [Act.put, List.setIfInBounds_toArray, List.set_cons_zero, List.set_cons_succ]
              refine AnyL.take (i := 7) (v := ?vy7) rfl (by kernel_rfl) (by kernel_rfl) (by kernel_rfl) (by kernel_rfl) (fun _ _ _ h => h) (by assumption) (Or.inl ⟨by rfl, ?y7⟩) ?ry7
              case y7 => (intro w hSw; (try dsimp only at hSw); go_simp; try with_reducible rfl)
              try simp only [Act.put, List.setIfInBounds_toArray, List.set_cons_zero, List.set_cons_succ]
              refine AnyL.take (i := 8) (v := ?vy8) rfl (by kernel_rfl) (by kernel_rfl) (by kernel_rfl) (by kernel_rfl) (fun _ _ _ h => h) (by assumption) (Or.inl ⟨by rfl, ?y8⟩) ?ry8
              case y8 => (intro w hSw; (try dsimp only at hSw); go_simp; try with_reducible rfl)
              try simp only [Act.put, List.setIfInBounds_toArray, List.set_cons_zero, List.set_cons_succ]
              refine AnyL.one (i := 9) (by kernel_rfl) rfl (fun K hK => ?_)
              go_simp
              refine (CA.out _).mono ?_
              rintro e w6 ⟨rfl, hb6⟩
              have hb06 := HBD.out.trans (hb6.mono HBD.out.size)
              refine hK.out _ _ (.inr (KS.out _ hb06)) ?_
              clear hHeld hK K
              have hHeld := KS.out _ hb06
              try simp only [Act.put, List.setIfInBounds_toArray, List.set_cons_zero, List.set_cons_succ]
              have HFB : Hid (Below xb.heap.size xb w6) := Lib.hid ((HKB.out.trans (HBR.out.mono HKB.out.size)).trans (hb6.mono (HKB.out.trans (HBR.out.mono HKB.out.size)).size))
              clear hb6 hb06 KS hS0 CA
              refine AnyL.take (i := 10) (v := ?vz10) rfl (by kernel_rfl) (by kernel_rfl) (by kernel_rfl) (by kernel_rfl) (fun _ _ _ h => h) (by assumption) (Or.inl ⟨by rfl, ?z10⟩) ?rz10
              case z10 => (intro w hSw; (try dsimp only at hSw); go_simp; try with_reducible rfl)
              try simp only [Act.put, List.setIfInBounds_toArray, List.set_cons_zero, List.set_cons_succ]
              refine AnyL.done (by kernel_rfl) ?_ _
              clear hHeld w1'
              go_wp2_with fail
              go_roundg (gk - 1)
              case measure => have := HKG.out; omega
              case rel => exact ⟨k + 1, by rw [Int.natCast_succ], by have := HKG.out; omega, HFB.out⟩
            · have d9 : decide ((k : Int) + 1 < (N : Int)) = false := by simp; omega
              have c7 := Texts_calls A8 A2 c8 c2 (nms L) (nms L) wr HTK.out (HT2.out.below HBK.out) (by rw [nms_len, HN.out]; omega)
              rw [decide_eq_true rfl, nms_len, HN.out] at c7
              have C7 := Lib.hid c7
              have HEK := Lib.hid (HE2.out.on HBK.out)
              clear c7
              go_wp2_with fail
              refine (C7.out).mono ?_
              rintro e w6 ⟨rfl, hb6⟩
              have HE6 := Lib.hid (HEK.out.on hb6)
              clear hb6 C7
              go_wp2_with fail
              refine (works_calls _ HE6.out.tab).mono ?_
              rintro e w7 ⟨rfl, hb7⟩
              go_wp2
              go_ret
              exact ⟨rfl, HE6.out.below.trans (hb7.mono HE6.out.base)⟩
  · obtain ⟨a1, a2⟩ := all_not hE
    obtain ⟨E, hEE⟩ : ∃ E, errL ps L = E := ⟨_, rfl⟩
    rw [hEE] at hE a1
    have C2 : Hid (Calls Tryd.prog 12 #[.pointer (some ⟨D, 0, none⟩), .string ⟨#[42]⟩, .string ⟨#[]⟩, .int .i64 1048576] w1 fun e w' => ∃ A c mo, e = .returned (.tuple #[.slice A 0 c, .bool mo, .int .i64 E]) ∧ Below w1.heap.size w1 w') := Lib.hid (c2.mono fun e w' h => by
      obtain ⟨A', c', e1, h1, _, h2⟩ := h.tr
      rw [show lnam L ⟨#[42]⟩ ⟨#[]⟩ 1048576 = [] from a2, show lerr L ⟨#[42]⟩ ⟨#[]⟩ 1048576 = E from a1] at e1
      exact ⟨A', c', _, e1, h2⟩)
    have d1 : (E == 0) = false := by simpa using hE
    have d2 : (E != 0) = true := by simpa using hE
    clear c2 a1 a2 hEE hE
    go_wp2_with fail
    refine (C2.out).mono ?_
    rintro e w2 ⟨A2, c2, mo, rfl, hb2⟩
    have HE2 := Lib.hid (HE.out.on hb2)
    clear hb2 C2
    go_wp2_with fail
    refine (works_calls _ HE2.out.tab).mono ?_
    rintro e w3 ⟨rfl, hb3⟩
    go_wp2
    go_ret
    exact ⟨rfl, HE2.out.below.trans (hb3.mono HE2.out.base)⟩
end Go.Proofs.YtkdjkndnilmjmaaDoor.U
