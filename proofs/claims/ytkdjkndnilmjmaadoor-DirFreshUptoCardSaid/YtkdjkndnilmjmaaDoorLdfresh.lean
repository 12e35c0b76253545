/- The law DirFresh: what is answered is new memory. -/
import Derived.Test.YtkdjkndnilmjmaaDoorLdlists
import Derived.Laws.OwnMore
set_option linter.unusedVariables false
set_option linter.unusedSimpArgs false
namespace Go.Proofs.YtkdjkndnilmjmaaDoor.U
open Go.RowKit Go.Proofs Go.Lib Go.Proofs.YtkdjkndnilmjmaaDoorW.PrintWords

set_option maxHeartbeats 8000000 in
set_option maxRecDepth 1000000 in
theorem DirFresh_walk (A : Option Addr) (c : Nat) (l : List ActV) (w : World) (h : AR w A l) (hl : l.length ≤ 1048576) (hz : AOk l) (hT : Tabs w) :
    Calls Tryd.prog 8 #[.slice A l.length c] w fun e w' => e = .returned (.bool true) ∧ Below w.heap.size w w' := by
  have C1 := Lib.hid (played_calls A c l w h (by omega) hz hT)
  clear h hl hz hT
  go_enter Tryd.func8, Tryd.ntmps8
  go_wp2_with fail
  refine (C1.out).mono ?_
  rintro e w1 ⟨D, R, rfl, M, L, hx, he⟩
  have hg := hx.1.good
  obtain ⟨vL, hr⟩ := hx.2
  obtain ⟨X, hX⟩ : ∃ X, nms (lnam L ⟨#[42]⟩ ⟨#[]⟩ 1048576) = X := ⟨_, rfl⟩
  obtain ⟨mo, hmo⟩ : ∃ X, lmor L ⟨#[42]⟩ ⟨#[]⟩ 1048576 = X := ⟨_, rfl⟩
  obtain ⟨er, her⟩ : ∃ X, lerr L ⟨#[42]⟩ ⟨#[]⟩ 1048576 = X := ⟨_, rfl⟩
  obtain ⟨Z, hZ⟩ : ∃ X, strs (lnam L ⟨#[42]⟩ ⟨#[]⟩ 1048576) = X := ⟨_, rfl⟩
  have hlen : X.length ≤ 60 := by
    rw [← hX, nms_len]
    exact Nat.le_trans (lnam_len L _ _ _) hg.len
  have C2 := Lib.hid (fun W (hW : Below w1.heap.size w1 W) => (DList (hx.1.below hW) (by omega) (he.on hW) ⟨#[42]⟩ ⟨#[]⟩ 1048576 (by decide) (by decide)).mono fun e w' h => h.tr)
  have C3 := Lib.hid (fun W (hW : Below w1.heap.size w1 W) => (RList (hr.below hW) hg (by omega) ⟨#[42]⟩ ⟨#[]⟩ 1048576 (by decide) (by decide)).mono fun e w' h => h.tr)
  rw [hX, hmo, her, hZ] at C2
  rw [hX, hmo, her, hZ] at C3
  obtain ⟨n, hn⟩ : ∃ n, X.length = n := ⟨_, rfl⟩
  rw [hn] at C2 C3 hlen
  have HE := Lib.hid he
  have HN := Lib.hid hn
  clear hx he hr hg C1 hX hmo her hZ hn
  go_wp2_with fail
  refine (C2.out _ (Below.refl _ _)).mono ?_
  rintro e w2 ⟨A2, c2, rfl, ht2, ho2, hb2⟩
  have HO2 := Lib.hid ho2
  have HB2 := Lib.hid hb2
  clear ht2 ho2 hb2
  go_wp2_with fail
  go_loopg [9] n (fun g v9 wr => ∃ i : Nat, v9 = .int .i64 (i : Int) ∧ i + g = n ∧ (∃ xs, wr.ownsRow w1.heap.size 9 1 (.slice A2 n c2) n xs) ∧ Below w1.heap.size w1 wr)
  case atStart => exact ⟨0, rfl, Nat.zero_add _, ⟨_, HO2.out⟩, HB2.out⟩
  case round =>
    obtain ⟨i, rfl, hig, ⟨xs, hown⟩, hbw⟩ := hrel
    have HIG := Lib.hid hig
    have HBW := Lib.hid hbw
    by_cases hin : i < n
    · have d1 : decide ((i : Int) < (n : Int)) = true := by simp; omega
      have i1 : (i : Int) < (n : Int) := by omega
      obtain ⟨A', c', e', hc', h1 | ⟨g, rfl, hg⟩⟩ := own_form hown
      · injection e' with e1 e2 e3
        subst e1 e3
        omega
      · injection e' with e1 e2 e3
        subst e1
        clear e2 e3
        obtain ⟨u, hu⟩ : ∃ u, xs[i]? = some u := ⟨_, List.getElem?_eq_getElem (by have := hown.1; omega)⟩
        have q0 := (hown.cellAt i (by omega)).trans hu
        have f0 : wr.frozen? ⟨g, i, none⟩ = false := by
          obtain ⟨cs, hcs⟩ := own_type hown g (by simp [Value.ownBlock])
          exact Lib.frozen_of_heap hcs i
        have hst := hown.stored i (.string ⟨#[120]⟩)
        have HST := Lib.hid hst.1
        have hgb := (hown.lt g (by simp [Value.ownBlock])).1
        have HB := Lib.hid (hbw.setCell (p := ⟨g, i, none⟩) hgb (.string ⟨#[120]⟩))
        clear hst hgb hown hbw hu hig hc' hg
        go_wp2_with fail
        go_roundg (gk - 1)
        case measure => have := HIG.out; omega
        case rel => exact ⟨i + 1, by rw [Int.natCast_succ], by have := HIG.out; omega, ⟨_, HST.out⟩, HB.out⟩
    · obtain rfl : i = n := by omega
      have d1 : decide ((i : Int) < (i : Int)) = false := by simp
      clear hown hbw hig HO2 HB2
      go_wp2_with fail
      refine (C2.out _ HBW.out).mono ?_
      rintro e w3 ⟨A3, c3, rfl, ht3, _, hb3⟩
      have HT3 := Lib.hid ht3
      have HB3 := Lib.hid (HBW.out.trans (hb3.mono HBW.out.size))
      clear ht3 hb3 C2
      go_wp2_with fail
      refine (C3.out _ HB3.out).mono ?_
      rintro e w4 ⟨A4, c4, rfl, ht4, _, hb4⟩
      have c5 := Texts_calls A3 A4 c3 c4 X X w4 (HT3.out.below hb4) ht4 (by rw [HN.out]; omega)
      rw [decide_eq_true rfl, HN.out] at c5
      have C5 := Lib.hid c5
      have HB4 := Lib.hid (HB3.out.trans (hb4.mono HB3.out.size))
      clear ht4 hb4 c5 C3
      go_wp2_with fail
      refine (C5.out).mono ?_
      rintro e w5 ⟨rfl, hb5⟩
      have HE5 := Lib.hid (HE.out.on (HB4.out.trans (hb5.mono HB4.out.size)))
      clear hb5 C5
      go_wp2_with fail
      refine (works_calls _ HE5.out.tab).mono ?_
      rintro e w6 ⟨rfl, hb6⟩
      go_wp2
      go_ret
      exact ⟨rfl, HE5.out.below.trans (hb6.mono HE5.out.base)⟩
end Go.Proofs.YtkdjkndnilmjmaaDoor.U
