/- The law DirLists: what a pattern fits, behind a name, at most so many, and whether there are more, are the document's, or its error. -/
import Derived.Test.YtkdjkndnilmjmaaDoorK5
set_option linter.unusedVariables false
set_option linter.unusedSimpArgs false
namespace Go.Proofs.YtkdjkndnilmjmaaDoor.U
open Go.RowKit Go.Proofs Go.Lib Go.Proofs.YtkdjkndnilmjmaaDoorW.PrintWords

theorem lnam_len (l : List Ent) (p a : ByteArray) (most : Int) : (lnam l p a most).length ≤ l.length := by
  unfold lnam
  split
  · rw [List.length_take]
    have : (cand l p a).length ≤ l.length := List.length_filter_le _ _
    omega
  · exact Nat.zero_le _
set_option maxHeartbeats 4000000 in
set_option maxRecDepth 1000000 in
theorem DirLists_walk (A : Option Addr) (c : Nat) (l : List ActV) (p a : ByteArray) (most : Int) (w : World) (h : AR w A l) (hl : l.length ≤ 1048576) (hz : AOk l) (hp : p.size ≤ 1048576) (ha : a.size ≤ 1048576) (hT : Tabs w) :
    Calls Tryd.prog 4 #[.slice A l.length c, .string p, .string a, .int .i64 most] w fun e w' => e = .returned (.bool true) ∧ Below w.heap.size w w' := by
  have C1 := Lib.hid (played_calls A c l w h (by omega) hz hT)
  clear h hl hz hT
  go_enter Tryd.func4, Tryd.ntmps4
  go_wp2_with fail
  refine (C1.out).mono ?_
  rintro e w1 ⟨D, R, rfl, M, L, hx, he⟩
  have C2 := Lib.hid ((DList hx.1 (by omega) he p a most hp ha).mono fun e w' h => h.tr)
  obtain ⟨vL, hr⟩ := hx.2
  have hg := hx.1.good
  have C3 := Lib.hid (fun W (hW : Below w1.heap.size w1 W) => (RList (hr.below hW) hg (by omega) p a most hp ha).mono fun e w' h => h.tr)
  have hlen : (nms (lnam L p a most)).length ≤ 60 := by
    rw [nms_len]
    exact Nat.le_trans (lnam_len L p a most) hg.len
  have HE := Lib.hid he
  obtain ⟨X, hX⟩ : ∃ X, nms (lnam L p a most) = X := ⟨_, rfl⟩
  obtain ⟨mo, hmo⟩ : ∃ X, lmor L p a most = X := ⟨_, rfl⟩
  obtain ⟨er, her⟩ : ∃ X, lerr L p a most = X := ⟨_, rfl⟩
  rw [hX, hmo, her] at C2
  rw [hX, hmo, her] at C3
  rw [hX] at hlen
  clear hx he hr hg C1 hX hmo her
  go_wp2_with fail
  refine (C2.out).mono ?_
  rintro e w2 ⟨A2, c2, rfl, ht2, _, hb2⟩
  have HT2 := Lib.hid ht2
  have HB2 := Lib.hid hb2
  clear ht2 hb2 C2
  go_wp2_with fail
  refine (C3.out _ HB2.out).mono ?_
  rintro e w3 ⟨A3, c3, rfl, ht3, _, hb3⟩
  have c4 := Texts_calls A2 A3 c2 c3 X X w3 (HT2.out.below hb3) ht3 (by omega)
  rw [decide_eq_true rfl] at c4
  have C4 := Lib.hid c4
  have HB3 := Lib.hid (HB2.out.trans (hb3.mono HB2.out.size))
  clear ht3 hb3 c4 C3 hlen
  go_wp2_with fail
  refine (C4.out).mono ?_
  rintro e w4 ⟨rfl, hb4⟩
  have HB4 := Lib.hid (HB3.out.trans (hb4.mono HB3.out.size))
  have HE4 := Lib.hid (HE.out.on HB4.out)
  clear hb4 C4
  go_wp2_with fail
  refine (works_calls _ HE4.out.tab).mono ?_
  rintro e w5 ⟨rfl, hb5⟩
  go_wp2
  go_ret
  exact ⟨rfl, HE4.out.below.trans (hb5.mono HE4.out.base)⟩
end Go.Proofs.YtkdjkndnilmjmaaDoor.U
