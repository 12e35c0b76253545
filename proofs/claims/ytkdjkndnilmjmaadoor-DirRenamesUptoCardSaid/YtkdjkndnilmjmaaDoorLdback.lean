/- The law DirBack: what was added is found, whatever letters are great, until it is removed. -/
import Derived.Test.YtkdjkndnilmjmaaDoorK5
set_option linter.unusedVariables false
set_option linter.unusedSimpArgs false
namespace Go.Proofs.YtkdjkndnilmjmaaDoor.U
open Go.RowKit Go.Proofs Go.Lib Go.Proofs.YtkdjkndnilmjmaaDoorW.PrintWords

theorem bts_fs (s : ByteArray) : bts (fs s) = fold (bts s) := by simp [fs, bts]
theorem fs_size (s : ByteArray) : (fs s).size = s.size := by
  have : (fs s).size = (fold (bts s)).length := by simp [fs, ByteArray.size]
  rw [this, fold_length]
  unfold bts
  rw [Array.length_toList, ByteArray.size_data]
theorem bts_ne {s : ByteArray} (h : s ≠ ⟨#[]⟩) : bts s ≠ [] := fun e => h (ByteArray.ext (Array.toList_inj.1 e))
theorem okT_fs {s : ByteArray} (h : okT s = true) : okT (fs s) = true := by
  unfold okT at h ⊢
  rw [Bool.and_eq_true, decide_eq_true_eq] at h
  rw [Bool.and_eq_true, decide_eq_true_eq, bts_fs, valid_fold]
  refine ⟨fun e => bts_ne h.1 ?_, h.2⟩
  have h1 := bts_fs s
  rw [e] at h1
  have h2 : (fold (bts s)).length = 0 := by rw [← h1]; rfl
  rw [fold_length] at h2
  exact List.eq_nil_of_length_eq_zero h2
theorem al_fs (y s : ByteArray) : al y (fs s) = al y s := by
  rw [Bool.eq_iff_iff, al_iff, al_iff, bts_fs, fold_fold]
theorem fnd_fs (l : List Ent) (s : ByteArray) : fnd l (fs s) = fnd l s := by
  unfold fnd
  congr 1
  funext x
  exact al_fs _ _
theorem fnd_put {l : List Ent} {s t : ByteArray} {n : Int} (h : fnd l s = none) (ha : al s t = true) : fnd (put l s n) t = some ⟨s, n⟩ := by
  unfold fnd put
  rw [List.find?_append]
  have h1 : (l.take (plc l s)).find? (fun x => al x.name t) = none := by
    rw [List.find?_eq_none]
    intro x hx hh
    have h2 := fnd_none h x (List.mem_of_mem_take hx)
    rw [al_trans hh (al_symm ha)] at h2
    cases h2
  rw [h1, Option.none_or]
  exact List.find?_cons_of_pos (p := fun x : Ent => al x.name t) ha
theorem fi_ok {l : List Ent} {s : ByteArray} (h : okT s = true) {x : Ent} (hf : fnd l s = some x) : fiN l s = x.n ∧ fiO l s = x.name ∧ fiE l s = 0 := by
  unfold fiN fiO fiE numOf ownOf errFnd
  rw [if_pos h, if_pos h, if_pos h, hf]
  exact ⟨rfl, rfl, rfl⟩
theorem fi_none {l : List Ent} {s : ByteArray} (h : okT s = true) (hf : fnd l s = none) : fiN l s = 0 ∧ fiO l s = ⟨#[]⟩ ∧ fiE l s = 7 := by
  unfold fiN fiO fiE numOf ownOf errFnd
  rw [if_pos h, if_pos h, if_pos h, hf]
  exact ⟨rfl, rfl, rfl⟩
set_option maxHeartbeats 8000000 in
set_option maxRecDepth 1000000 in
theorem DirBack_walk (A : Option Addr) (c : Nat) (l : List ActV) (s : ByteArray) (k : Int) (w : World) (h : AR w A l) (hl : l.length ≤ 1048576) (hz : AOk l) (hs : s.size ≤ 1048576) (hk : (Lit.int .i64 k).wf = true) (hT : Tabs w) :
    Calls Tryd.prog 6 #[.slice A l.length c, .string s, .int .i64 k] w fun e w' => e = .returned (.bool true) ∧ Below w.heap.size w w' := by
  have C1 := Lib.hid (played_calls A c l w h (by omega) hz hT)
  clear h hl hz hT
  go_enter Tryd.func6, Tryd.ntmps6
  go_wp2_with fail
  refine (C1.out).mono ?_
  rintro e w1 ⟨D, R, rfl, M, L, hx, he⟩
  have hg := hx.1.good
  obtain ⟨m, hm⟩ : ∃ m, L.length = m := ⟨_, rfl⟩
  have hm60 : m ≤ 60 := by rw [← hm]; exact hg.len
  have c2 := DLen hx.1
  rw [hm] at c2
  have C2 := Lib.hid c2
  have HM := Lib.hid hm
  clear c2 hm
  by_cases hok : okT s = true
  · have HOK := Lib.hid hok
    by_cases hf : (fnd L s).isSome = true
    · obtain ⟨x, hfx⟩ := Option.isSome_iff_exists.1 hf
      have HF1 := Lib.hid hfx
      have HADD : Hid (addR L s k = (L, 8)) := Lib.hid (by unfold addR; rw [if_pos hok, if_pos hf])
      have HREM : Hid (remR L s = (cut L s, 0)) := Lib.hid (by unfold remR; rw [if_pos hok, if_pos hf])
      have HNO : Hid (fnd (cut L s) s = none) := Lib.hid (fnd_cut hg.rise hfx (fnd_some hfx).2)
      have HXS := Lib.hid (hg.sz x (fnd_some hfx).1)
      have HALK : Hid (al x.name s = true) := Lib.hid (fnd_some hfx).2
      clear hf hfx hg hok
      have c3 := DAdd hx.1 (by omega) he s k hs hk
      rw [HADD.out] at c3
      have C3 := Lib.hid c3
      have HE := Lib.hid he
      clear c3 hx he C1
      go_wp2_with fail
      refine (C2.out).mono ?_
      rintro e w2 ⟨rfl, rfl⟩
      clear C2
      go_wp2_with fail
      refine (C3.out).mono ?_
      rintro e w3 ⟨rfl, hp3, _, hb3⟩
      have he3 := HE.out.step hb3
      clear hb3
      have c5 := DFind hp3 (by omega) he3 (fs s) (by rw [fs_size]; exact hs)
      obtain ⟨f1, f2, f3⟩ := fi_ok (okT_fs HOK.out) ((fnd_fs _ _).trans HF1.out)
      rw [f1, f2, f3] at c5
      have C5 : Hid (∀ W, Below w3.heap.size w3 W → Calls Tryd.prog 18 #[.pointer (some ⟨D, 0, none⟩), .string ⟨(fold s.data.toList).toArray⟩] W fun e w' => e = .returned (.tuple #[.int .i64 x.n, .string x.name, .int .i64 0]) ∧ Below W.heap.size W w') := Lib.hid (fun W hW => by
        have c5 := DFind (hp3.below hW) (by omega) (he3.on hW) (fs s) (by rw [fs_size]; exact hs)
        rw [f1, f2, f3] at c5
        exact c5)
      have C4 := Lib.hid (Fold_calls s w3 (by omega))
      have HP3 := Lib.hid hp3
      have HE3 := Lib.hid he3
      clear c5 f1 f2 f3 hp3 he3 C3
      go_wp2_with fail
      refine (C4.out).mono ?_
      rintro e w4 ⟨rfl, hb4⟩
      have HB4 := Lib.hid hb4
      clear hb4 C4
      go_wp2_with fail
      refine (C5.out _ HB4.out).mono ?_
      rintro e w5 ⟨rfl, hb5⟩
      have HB5 := Lib.hid (HB4.out.trans (hb5.mono HB4.out.size))
      clear hb5 C5
      have c6 := Alike_calls x.name s w5 (by have := HXS.out; omega) (by omega)
      rw [show alikeB x.name.data.toList s.data.toList = true from HALK.out] at c6
      have C6 := Lib.hid c6
      clear c6
      go_wp2_with fail
      refine (C6.out).mono ?_
      rintro e w6 ⟨rfl, hb6⟩
      have HB6 := Lib.hid (HB5.out.trans (hb6.mono HB5.out.size))
      clear hb6 C6
      have c7 := DRemove (HP3.out.below HB6.out) (by omega) (HE3.out.on HB6.out) s hs
      rw [HREM.out] at c7
      have C7 := Lib.hid c7
      have HE6 := Lib.hid (HE3.out.on HB6.out)
      clear c7
      go_wp2_with fail
      refine (C7.out).mono ?_
      rintro e w7 ⟨rfl, hp7, _, hb7⟩
      have he7 := HE6.out.step hb7
      have c8 := DFind hp7 (by omega) he7 s hs
      obtain ⟨f1, f2, f3⟩ := fi_none HOK.out HNO.out
      rw [f1, f2, f3] at c8
      have C8 := Lib.hid c8
      have HE7 := Lib.hid he7
      clear hp7 hb7 he7 c8 f1 f2 f3 C7
      go_wp2_with fail
      refine (C8.out).mono ?_
      rintro e w8 ⟨rfl, hb8⟩
      have HE8 := Lib.hid (HE7.out.on hb8)
      clear hb8 C8
      go_wp2_with fail
      refine (works_calls _ HE8.out.tab).mono ?_
      rintro e w9 ⟨rfl, hb9⟩
      go_wp2
      go_ret
      exact ⟨rfl, HE8.out.below.trans (hb9.mono HE8.out.base)⟩
    · have hfn := isSome_none hf
      have HF1 := Lib.hid (fnd_put (n := k) hfn (al_self s))
      have HADD : Hid (addR L s k = (put L s k, 0)) := Lib.hid (by unfold addR; rw [if_pos hok, if_neg hf])
      have HREM : Hid (remR (put L s k) s = (cut (put L s k) s, 0)) := Lib.hid (by unfold remR; rw [if_pos hok, if_pos (by rw [HF1.out]; rfl)])
      have HNO : Hid (fnd (cut (put L s k) s) s = none) := Lib.hid (fnd_cut (put_rise hg.rise hfn k) HF1.out (al_self s))
      have HL1 : Hid ((put L s k).length = m + 1) := Lib.hid (by rw [put_len, HM.out])
      clear hf hfn hg hok
      have c3 := DAdd hx.1 (by omega) he s k hs hk
      rw [HADD.out] at c3
      have C3 := Lib.hid c3
      have HE := Lib.hid he
      clear c3 hx he C1
      go_wp2_with fail
      refine (C2.out).mono ?_
      rintro e w2 ⟨rfl, rfl⟩
      clear C2
      go_wp2_with fail
      refine (C3.out).mono ?_
      rintro e w3 ⟨rfl, hp3, _, hb3⟩
      have he3 := HE.out.step hb3
      clear hb3
      have c5 := DFind hp3 (by omega) he3 (fs s) (by rw [fs_size]; exact hs)
      obtain ⟨f1, f2, f3⟩ := fi_ok (okT_fs HOK.out) ((fnd_fs _ _).trans HF1.out)
      rw [f1, f2, f3] at c5
      have C5 : Hid (∀ W, Below w3.heap.size w3 W → Calls Tryd.prog 18 #[.pointer (some ⟨D, 0, none⟩), .string ⟨(fold s.data.toList).toArray⟩] W fun e w' => e = .returned (.tuple #[.int .i64 k, .string s, .int .i64 0]) ∧ Below W.heap.size W w') := Lib.hid (fun W hW => by
        have c5 := DFind (hp3.below hW) (by omega) (he3.on hW) (fs s) (by rw [fs_size]; exact hs)
        rw [f1, f2, f3] at c5
        exact c5)
      have C4 := Lib.hid (Fold_calls s w3 (by omega))
      have HP3 := Lib.hid hp3
      have HE3 := Lib.hid he3
      clear c5 f1 f2 f3 hp3 he3 C3
      go_wp2_with fail
      refine (C4.out).mono ?_
      rintro e w4 ⟨rfl, hb4⟩
      have HB4 := Lib.hid hb4
      clear hb4 C4
      go_wp2_with fail
      refine (C5.out _ HB4.out).mono ?_
      rintro e w5 ⟨rfl, hb5⟩
      have HB5 := Lib.hid (HB4.out.trans (hb5.mono HB4.out.size))
      clear hb5 C5
      have c6 := DLen (HP3.out.below HB5.out)
      rw [HL1.out, Int.natCast_succ] at c6
      have C6 := Lib.hid c6
      clear c6
      go_wp2_with fail
      refine (C6.out).mono ?_
      rintro e w6 ⟨rfl, rfl⟩
      have HB6 := HB5
      clear C6
      have c7 := DRemove (HP3.out.below HB6.out) (by omega) (HE3.out.on HB6.out) s hs
      rw [HREM.out] at c7
      have C7 := Lib.hid c7
      have HE6 := Lib.hid (HE3.out.on HB6.out)
      clear c7
      go_wp2_with fail
      refine (C7.out).mono ?_
      rintro e w7 ⟨rfl, hp7, _, hb7⟩
      have he7 := HE6.out.step hb7
      have c8 := DFind hp7 (by omega) he7 s hs
      obtain ⟨f1, f2, f3⟩ := fi_none HOK.out HNO.out
      rw [f1, f2, f3] at c8
      have C8 := Lib.hid c8
      have HE7 := Lib.hid he7
      clear hp7 hb7 he7 c8 f1 f2 f3 C7
      go_wp2_with fail
      refine (C8.out).mono ?_
      rintro e w8 ⟨rfl, hb8⟩
      have HE8 := Lib.hid (HE7.out.on hb8)
      clear hb8 C8
      go_wp2_with fail
      refine (works_calls _ HE8.out.tab).mono ?_
      rintro e w9 ⟨rfl, hb9⟩
      go_wp2
      go_ret
      exact ⟨rfl, HE8.out.below.trans (hb9.mono HE8.out.base)⟩
  · have HADD : Hid (addR L s k = (L, 5)) := Lib.hid (by unfold addR; rw [if_neg hok])
    clear hg hok
    have c3 := DAdd hx.1 (by omega) he s k hs hk
    rw [HADD.out] at c3
    have C3 := Lib.hid c3
    have HE := Lib.hid he
    clear c3 hx he C1
    go_wp2_with fail
    refine (C2.out).mono ?_
    rintro e w2 ⟨rfl, rfl⟩
    clear C2
    go_wp2_with fail
    refine (C3.out).mono ?_
    rintro e w3 ⟨rfl, hp3, _, hb3⟩
    have he3 := HE.out.step hb3
    have c4 := DLen hp3
    rw [HM.out] at c4
    have C4 := Lib.hid c4
    have HE3 := Lib.hid he3
    clear hp3 hb3 he3 c4 C3
    go_wp2_with fail
    refine (C4.out).mono ?_
    rintro e w4 ⟨rfl, rfl⟩
    clear C4
    go_wp2_with fail
    refine (works_calls _ HE3.out.tab).mono ?_
    rintro e w9 ⟨rfl, hb9⟩
    go_wp2
    go_ret
    exact ⟨rfl, HE3.out.below.trans (hb9.mono HE3.out.base)⟩
end Go.Proofs.YtkdjkndnilmjmaaDoor.U
