/- utf.Put once more: and all cells of the answer's block are bytes. -/
import Derived.Test.YtanncmaojnmldaaDoorUown
set_option linter.unusedVariables false
set_option linter.unusedSimpArgs false
namespace Go.Proofs.YtanncmaojnmldaaDoor.U
open Go.RowKit Go.Proofs Go.Lib Go.Proofs.YtanncmaojnmldaaDoorW.PrintWords

def Grew2 (B b : Nat) (v : Value) (xs : List Int) (w : World) (e : Ending) (w' : World) : Prop :=
  e = .returned (.tuple #[]) ∧ ∃ v', AllU8 w' v' ∧ w'.heap[b]? = some (.cells #[v'] 22 (0, 0)) ∧ w'.ownsRow B 5 1 v' xs.length (nums .u8 xs) ∧ Below B w w' ∧
    (∀ k, k < w.heap.size → k ≠ b → some k ≠ v.ownBlock → w'.heap[k]? = w.heap[k]?)

set_option maxHeartbeats 4000000 in
set_option maxRecDepth 1000000 in
theorem unit2_calls (B b : Nat) (v : Value) (xs : List Int) (n : Nat) (w : World) (hn : n < 65536) (hbk : w.heap[b]? = some (.cells #[v] 22 (0, 0))) (hB : B ≤ b) (hown : w.ownsRow B 5 1 v xs.length (nums .u8 xs)) (hU : AllU8 w v) (hlen : xs.length + 2 ≤ 140737488355328) :
    Calls Tryd.prog 24 #[.int .i32 n, .pointer (some ⟨b, 0, none⟩)] w (Grew2 B b v (xs ++ [((n % 256 : Nat) : Int), ((n / 256 : Nat) : Int)]) w) := by
  obtain ⟨i0, hi, hz0, hz1, hz2⟩ := info_parts infoU8
  have hlt : b < w.heap.size := (Array.getElem?_eq_some_iff.1 hbk).1
  have c0 : w.cell? ⟨b, 0, none⟩ = some v := by rw [Lib.cell_of_heap hbk]; rfl
  have f0 : w.frozen? ⟨b, 0, none⟩ = false := Lib.frozen_of_heap hbk 0
  have hne : some b ≠ v.ownBlock := by
    rcases hown.2 with ⟨rfl, _⟩ | ⟨g, cap, cur, rfl, hb, hh, _⟩
    · simp [Value.ownBlock]
    · intro e
      have : b = g := by simpa [Value.ownBlock] using e
      subst this
      rw [hbk] at hh
      injection hh with hh
      injection hh with _ hh
      exact absurd hh (by decide)
  have HBK := Lib.hid hbk
  clear hbk
  go_enter Tryd.func24, Tryd.ntmps24
  go_wp2_with (at_builtin; refine wpList_append_bytes rfl _ _ 22 rfl B i0 Tryd.underlying22 hi hz0 hz1 hz2 _ xs rfl (hown.alloc _) (hU.below ((Below.refl _ _).alloc (Nat.le_refl _) _)) ⟨w.heap.size, 0, none⟩ 2 2 [((n % 256 : Nat) : Int), ((n / 256 : Nat) : Int)] rfl rfl ?c1 ?c4 ?c5 ?_)
  case c1 =>
    intro j u hj
    match j, hj with
    | 0, hj =>
      simp [nums] at hj; subst hj; simp [Addr.add]
    | 1, hj =>
      simp [nums] at hj; subst hj; simp [Addr.add]
    | (j + 2), hj => simp [nums] at hj
  case c4 => omega
  case c5 => simp; omega
  intro v' w2 hown' hgrow hU2
  rw [← nums_append] at hown'
  have hb2 : w2.heap[b]? = some (.cells #[v] 22 (0, 0)) := by
    rw [hgrow.block b (by simp; omega) hne, Lib.alloc_old w _ b hlt]
    exact HBK.out
  have d0 : w2.cell? ⟨b, 0, none⟩ = some v := by rw [Lib.cell_of_heap hb2]; rfl
  have f1 : w2.frozen? ⟨b, 0, none⟩ = false := Lib.frozen_of_heap hb2 0
  have hbel : Below B w w2 := ((Below.refl B w).alloc (by omega) _).grown hgrow (by simp; omega) (fun k hk => (hown.lt k hk).1)
  have hkeep : ∀ k, k < w.heap.size → k ≠ b → some k ≠ v.ownBlock → (w2.setCell ⟨b, 0, none⟩ v').heap[k]? = w.heap[k]? := by
    intro k hk hkb hkv
    rw [Below.heap_setCell _ _ _ _ hkb, hgrow.block k (by simp; omega) hkv, Lib.alloc_old w _ k hk]
  have hnew : v'.ownBlock ≠ some b := by
    intro e
    have ht := own_typed hown' b e
    obtain ⟨cells, hc⟩ := ht
    rw [hb2] at hc
    injection hc with hc
    injection hc with _ hc
    exact absurd hc (by decide)
  have hset : (w2.setCell ⟨b, 0, none⟩ v').heap[b]? = some (.cells #[v'] 22 (0, 0)) := by
    simp only [World.setCell, Array.getElem?_modify, if_true, hb2, Option.map_some]
    rfl
  have hU3 : AllU8 (w2.setCell ⟨b, 0, none⟩ v') v' := hU2.move fun k hk => Below.heap_setCell _ _ _ _ (fun e => hnew (by rw [hk, e]))
  have hown2 : (w2.setCell ⟨b, 0, none⟩ v').ownsRow B 5 1 v' (xs ++ [((n % 256 : Nat) : Int), ((n / 256 : Nat) : Int)]).length (nums .u8 (xs ++ [((n % 256 : Nat) : Int), ((n / 256 : Nat) : Int)])) := by
    refine own_move (by simpa using hown') (fun k hk => Below.heap_setCell _ _ _ _ (fun e => hnew (by rw [hk, e])))
  have HU := Lib.hid hU3
  obtain ⟨g, cap, rfl⟩ : ∃ g cap, v' = .slice (some ⟨g, 0, none⟩) (xs.length + 2) cap := by
    rcases hown'.2 with ⟨_, h0⟩ | ⟨g, cap, cur, hv, _⟩
    · omega
    · exact ⟨g, cap, hv⟩
  have HB2 := Lib.hid hb2
  have HO := Lib.hid hown'
  have HS := Lib.hid hset
  have HK := Lib.hid hkeep
  clear hb2 hown' hset hkeep hgrow hU2 hU3 hU
  go_wp2
  go_end0
  exact ⟨rfl, _, HU.out, HS.out, hown2, hbel.setCell (p := ⟨b, 0, none⟩) hB _, HK.out⟩

/-- The loop's relation: what has been laid, and what is to come. -/
def PutAt2 (s : ByteArray) (w : World) (b : Nat) (tot : List Int) (pos : Nat) (v : Value) (done : List Int) (wr : World) : Prop :=
  AllU8 wr v ∧ wr.heap[b]? = some (.cells #[v] 22 (0, 0)) ∧ wr.heap[b + 1]? = some (.stringIter s pos) ∧ wr.ownsRow w.heap.size 5 1 v done.length (nums .u8 done) ∧ Below w.heap.size w wr ∧ valid (s.data.toList.drop pos) = true ∧ done ++ ubytes (units (s.data.toList.drop pos)) = tot

theorem next_at2 {s : ByteArray} {w wr : World} {b pos : Nat} {v : Value} {done : List Int} (hU : AllU8 wr v) (hbk : wr.heap[b]? = some (.cells #[v] 22 (0, 0))) (hit : wr.heap[b + 1]? = some (.stringIter s pos)) (hown : wr.ownsRow w.heap.size 5 1 v done.length (nums .u8 done)) (hbw : Below w.heap.size w wr) (hB : w.heap.size ≤ b) (pos' : Nat) :
    AllU8 (wr.iterAt (b + 1) s pos') v ∧ (wr.iterAt (b + 1) s pos').heap[b]? = some (.cells #[v] 22 (0, 0)) ∧ (wr.iterAt (b + 1) s pos').heap[b + 1]? = some (.stringIter s pos') ∧ (wr.iterAt (b + 1) s pos').ownsRow w.heap.size 5 1 v done.length (nums .u8 done) ∧ Below w.heap.size w (wr.iterAt (b + 1) s pos') := by
  refine ⟨?_, ?_, Lib.iterAt_heap wr (b + 1) s pos pos' hit, ?_, Lib.below_iterAt hbw (by omega) s pos'⟩
  · refine hU.move fun k hk => Lib.iterAt_other _ _ _ _ _ ?_
    rintro rfl
    obtain ⟨c, hc⟩ := own_typed hown _ hk
    rw [hit] at hc
    cases hc
  · rw [Lib.iterAt_other _ _ _ _ _ (by omega)]; exact hbk
  · refine own_move hown (fun k hk => Lib.iterAt_other _ _ _ _ _ ?_)
    rintro rfl
    obtain ⟨c, hc⟩ := own_typed hown _ hk
    rw [hit] at hc
    cases hc
theorem put_on2 {s : ByteArray} {w wr w2 : World} {b pos : Nat} {v v' : Value} {done : List Int} (h : AllU8 wr v ∧ wr.heap[b]? = some (.cells #[v] 22 (0, 0)) ∧ wr.heap[b + 1]? = some (.stringIter s pos) ∧ wr.ownsRow w.heap.size 5 1 v done.length (nums .u8 done) ∧ Below w.heap.size w wr)
    (hU' : AllU8 w2 v') (hbk' : w2.heap[b]? = some (.cells #[v'] 22 (0, 0))) (ys : List Int) (hown' : w2.ownsRow w.heap.size 5 1 v' (done ++ ys).length (nums .u8 (done ++ ys))) (hbel : Below w.heap.size wr w2) (hkeep : ∀ k, k < wr.heap.size → k ≠ b → some k ≠ v.ownBlock → w2.heap[k]? = wr.heap[k]?) :
    AllU8 w2 v' ∧ w2.heap[b]? = some (.cells #[v'] 22 (0, 0)) ∧ w2.heap[b + 1]? = some (.stringIter s pos) ∧ w2.ownsRow w.heap.size 5 1 v' (done ++ ys).length (nums .u8 (done ++ ys)) ∧ Below w.heap.size w w2 := by
  obtain ⟨_, h1, h2, h3, h4⟩ := h
  refine ⟨hU', hbk', ?_, hown', h4.trans hbel⟩
  rw [hkeep (b + 1) (Array.getElem?_eq_some_iff.1 h2).1 (by omega) ?_]
  · exact h2
  · intro e
    obtain ⟨c, hc⟩ := own_typed h3 _ e.symm
    rw [h2] at hc
    cases hc

set_option maxHeartbeats 4000000 in
set_option maxRecDepth 1000000 in
theorem Put2_yes (s : ByteArray) (w : World) (hs : s.size ≤ 17592186044416) (hT : Tabs w) (hv : valid s.data.toList = true) :
    Calls Tryd.prog 10 #[.string s] w fun e w' => ∃ v, e = .returned (.tuple #[v, .int .i64 0]) ∧ Kd.R (Kd.int .u8) 5 w' w.heap.size (fun _ => True) v (ubytes (units s.data.toList)) ∧ AllU8 w' v ∧ Below w.heap.size w w' := by
  have cU := Units_yes s w (by omega) hT hv
  have CU := Lib.hid cU
  clear cU hT
  have HV := Lib.hid hv
  clear hv
  obtain ⟨tot, htot⟩ : ∃ tot, ubytes (units s.data.toList) = tot := ⟨_, rfl⟩
  rw [htot]
  have hlt : tot.length ≤ 4 * s.size := by
    have h1 := ubytes_len (units s.data.toList)
    have h2 := units_len s.data.toList
    rw [htot] at h1
    rw [← size_eq] at h2
    omega
  have HT := Lib.hid htot
  clear htot
  go_enter Tryd.func10, Tryd.ntmps10
  go_wp2_with (go_at_call 12; refine (CU.out).mono ?_; rintro e w1 ⟨rfl, hb1⟩)
  have hz1 := hb1.size
  go_loopw [] (fun wr => ∃ pos v done, PutAt2 s w w1.heap.size tot pos v done wr) (fun wr => s.size - wr.iterPos (w1.heap.size + 1))
  case atStart =>
    refine ⟨0, .slice none 0 0, [], AllU8.nil _ _ _, ?_, ?_, ?_, ?_, HV.out, by rw [List.drop_zero]; simpa using HT.out⟩
    · show ((w1.alloc _).alloc (.stringIter s 0)).heap[w1.heap.size]? = _
      rw [Lib.alloc_old _ _ _ (by simp)]
      exact heap_alloc_new _ _
    · have := World.iter_heap (w1.alloc (.cells #[.slice none 0 0] 22)) s 0
      simpa using this
    · exact own_nil _ _ _ _
    · exact (hb1.alloc hz1 _).alloc (by simp; omega) _
  case round =>
    obtain ⟨pos, v, done, hU, hbk, hit, hown, hbw, hv, hk⟩ := hrel
    have hsz : w1.heap.size + 1 < wr.heap.size := (Array.getElem?_eq_some_iff.1 hit).1
    by_cases hp : pos < s.size
    · obtain ⟨r, wd, hde, hdl, hwd, hd1, hne⟩ := next_facts s pos hp
      have hnx := next_run (P := Tryd.prog) hde hp wr (w1.heap.size + 1) hit
      obtain ⟨h1, h2, _⟩ := units_step hdl hne hv
      -- the same facts behind 'next'
      have hst := next_at2 hU hbk hit hown hbw hz1 (pos + wd)
      rw [h1, ubytes_append] at hk
      have hlen : (done ++ (ubytes (unit r) ++ ubytes (units (s.data.toList.drop (pos + wd))))).length = tot.length := by rw [hk]
      rw [List.length_append, List.length_append, ubytes_len] at hlen
      have hul := unit_len r
      have HST := Lib.hid hst
      have HK := Lib.hid hk
      have H2 := Lib.hid h2
      have HIT := Lib.hid hit
      have hdn : done.length + 2 ≤ 4 * s.size := by omega
      have hzw := hbw.size
      clear hst hk h1 h2 hit hbk hU hown hv hlen hul hde hdl hne
      by_cases hr : r < 65536
      · have HU := Lib.hid (ubytes_unit_lo _ hr)
        have hdec : decide ((r : Int) < (65536 : Int)) = true := by simp; omega
        go_wp2_with (go_at_call 24; refine (unit2_calls w.heap.size w1.heap.size v done r _ hr HST.out.2.1 hz1 HST.out.2.2.2.1 HST.out.1 (by omega)).mono ?_; rintro e w2 ⟨rfl, v', hU', hbk', hown', hbel', hkeep'⟩)
        have hrel' := put_on2 HST.out hU' hbk' [(((r % 256 : Nat)) : Int), (((r / 256 : Nat)) : Int)] hown' hbel' hkeep'
        have HR := Lib.hid hrel'
        clear hrel' hU' hbk' hown' hbel' hkeep'
        go_wp2
        go_roundw
        case rel => exact ⟨pos + wd, v', done ++ _, HR.out.1, HR.out.2.1, HR.out.2.2.1, HR.out.2.2.2.1, HR.out.2.2.2.2, H2.out, by have := HK.out; rw [HU.out] at this; rw [List.append_assoc]; exact this⟩
        case measure =>
          have e1 := HIT.out
          have e2 := HR.out.2.2.1
          simp only [World.iterPos, e1, e2]
          omega
      · have HU := Lib.hid (ubytes_unit_hi _ hr)
        have hdec : decide ((r : Int) < (65536 : Int)) = false := by simp; omega
        obtain ⟨m, hm⟩ : ∃ m, r = 65536 + m := ⟨r - 65536, by omega⟩
        have hml : m < 1048576 := by omega
        have e1 : (55296 + ((r : Nat) - 65536 : Int) / 1024) = ((55296 + m / 1024 : Nat) : Int) := by rw [hm]; omega
        have e2 : bits .and .i32 ((r : Nat) - 65536 : Int) 1023 = ((m % 1024 : Nat) : Int) := by
          rw [hm, show (((65536 + m : Nat) : Int) - 65536) = (m : Int) from by omega]
          exact and1023_i32 m (by omega)
        have E1 := Lib.hid e1
        have E2 := Lib.hid e2
        have HM := Lib.hid hm
        clear e1 e2 hm
        go_wp2_with fail
        rw [E1.out]
        refine (unit2_calls w.heap.size w1.heap.size v done (55296 + m / 1024) _ (by omega) HST.out.2.1 hz1 HST.out.2.2.2.1 HST.out.1 (by omega)).mono ?_
        rintro e w2 ⟨rfl, v', hU', hbk', hown', hbel', hkeep'⟩
        have hrel' := put_on2 HST.out hU' hbk' [(((55296 + m / 1024) % 256 : Nat) : Int), (((55296 + m / 1024) / 256 : Nat) : Int)] hown' hbel' hkeep'
        have HR := Lib.hid hrel'
        clear hrel' hU' hbk' hown' hbel' hkeep'
        go_wp2_with fail
        rw [E2.out, show wrap32 (56320 + ((m % 1024 : Nat) : Int)) = ((56320 + m % 1024 : Nat) : Int) from by unfold wrap32; omega]
        have hn6 : (done ++ [(((55296 + m / 1024) % 256 : Nat) : Int), (((55296 + m / 1024) / 256 : Nat) : Int)]).length = done.length + 2 := by rw [List.length_append]; rfl
        have HN6 := Lib.hid hn6
        clear hn6
        refine (unit2_calls w.heap.size w1.heap.size v' (done ++ [(((55296 + m / 1024) % 256 : Nat) : Int), (((55296 + m / 1024) / 256 : Nat) : Int)]) (56320 + m % 1024) _ (by omega) HR.out.2.1 hz1 HR.out.2.2.2.1 HR.out.1 (by rw [HN6.out]; omega)).mono ?_
        rintro e w3 ⟨rfl, v2, hU', hbk', hown', hbel', hkeep'⟩
        have hrel' := put_on2 HR.out hU' hbk' [(((56320 + m % 1024) % 256 : Nat) : Int), (((56320 + m % 1024) / 256 : Nat) : Int)] hown' hbel' hkeep'
        have HR2 := Lib.hid hrel'
        clear hrel' hU' hbk' hown' hbel' hkeep'
        go_wp2
        go_roundw
        case rel => exact ⟨pos + wd, v2, (done ++ _) ++ _, HR2.out.1, HR2.out.2.1, HR2.out.2.2.1, HR2.out.2.2.2.1, HR2.out.2.2.2.2, H2.out, by
          have hk := HK.out
          have hu := HU.out
          have hm := HM.out
          rw [hu, hm, show 65536 + m - 65536 = m from by omega] at hk
          rw [← hk]; simp only [List.append_assoc]⟩
        case measure =>
          have e1 := HIT.out
          have e2 := HR2.out.2.2.1
          simp only [World.iterPos, e1, e2]
          omega
    · have hnx : ∀ ty, (Instr.next (.pointer (some ⟨w1.heap.size + 1, 0, none⟩)) true ty).run Tryd.prog wr = _ := fun ty => Lib.run_next_end_at wr (w1.heap.size + 1) s pos ty hit hp
      have he : s.data.toList.drop pos = [] := List.drop_eq_nil_of_le (by rw [← size_eq]; omega)
      have hd : done = tot := by
        have h0 : ubytes (units (s.data.toList.drop pos)) = [] := by rw [he]; rfl
        rw [h0, List.append_nil] at hk
        exact hk
      subst hd
      have c0 : wr.cell? ⟨w1.heap.size, 0, none⟩ = some v := by rw [Lib.cell_of_heap hbk]; rfl
      have hR : Kd.R (Kd.int .u8) 5 wr w.heap.size (fun _ => True) v done := Kd.R_of_own hown (fun _ _ => trivial)
      have HR := Lib.hid hR
      have HU := Lib.hid hU
      clear hk hv he hbk hit hown hR hU
      go_wp2
      go_ret2
      exact ⟨v, rfl, HR.out, HU.out, hbw⟩

theorem Put2_calls (s : ByteArray) (w : World) (hs : s.size ≤ 17592186044416) (hT : Tabs w) :
    Calls Tryd.prog 10 #[.string s] w fun e w' => ∃ v, e = .returned (.tuple #[v, .int .i64 (errOf s.data.toList)]) ∧ Kd.R (Kd.int .u8) 5 w' w.heap.size (fun _ => True) v (putBytes s.data.toList) ∧ AllU8 w' v ∧ Below w.heap.size w w' := by
  unfold putBytes errOf
  cases hv : valid s.data.toList with
  | true => simp only [if_true]; exact Put2_yes s w hs hT hv
  | false =>
    simp only [Bool.false_eq_true, if_false]
    exact (Put_no s w hs hT hv).mono fun e w' ⟨he, hb⟩ => ⟨_, he, Kd.R_nil _ _ _ _ _, AllU8.nil _ _ _, hb⟩
end Go.Proofs.YtanncmaojnmldaaDoor.U
