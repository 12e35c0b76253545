/- utf.Put: a text's bytes, or its error; for texts of at most 2^45 bytes. -/
import Derived.Test.YtanncmaojnmldaaDoorUunits
import Derived.Test.YtanncmaojnmldaaDoorWWords
import Derived.Laws.AppendOwn
import Derived.OneCell
import Derived.Lib.QuoteBits
set_option linter.unusedVariables false
namespace Go.Proofs.YtanncmaojnmldaaDoor.U
open Go.RowKit Go.Proofs Go.Lib Go.Proofs.YtanncmaojnmldaaDoorW.PrintWords

/-- The bytes of units: the lowest first. -/
def ubytes (us : List Nat) : List Int := us.flatMap fun u => [((u % 256 : Nat) : Int), ((u / 256 : Nat) : Int)]
def putBytes (l : List UInt8) : List Int := if valid l = true then ubytes (units l) else []
theorem ubytes_append (a b : List Nat) : ubytes (a ++ b) = ubytes a ++ ubytes b := by simp [ubytes]
theorem ubytes_len (us : List Nat) : (ubytes us).length = 2 * us.length := by
  induction us with
  | nil => rfl
  | cons u us ih => simp only [ubytes, List.flatMap_cons, List.length_append, List.length_cons, List.length_nil] at ih ⊢; omega

theorem infoU8 : (Tryd.prog.info? 5).map (fun i => (i.zero, i.size, i.bytes)) = some (some (.int .u8 0), 1, 1) := by kernel_rfl

/-- What the closure leaves: two bytes more in what it has captured; nothing else of what was there. -/
def Grew (B b : Nat) (v : Value) (xs : List Value) (w : World) (e : Ending) (w' : World) : Prop :=
  e = .returned (.tuple #[]) ∧ ∃ v', w'.heap[b]? = some (.cells #[v'] 22 (0, 0)) ∧ w'.ownsRow B 5 1 v' xs.length xs ∧ Below B w w' ∧
    (∀ k, k < w.heap.size → k ≠ b → some k ≠ v.ownBlock → w'.heap[k]? = w.heap[k]?)

set_option maxHeartbeats 4000000 in
set_option maxRecDepth 1000000 in
theorem unit_calls (B b : Nat) (v : Value) (xs : List Value) (n : Nat) (w : World) (hn : n < 65536) (hbk : w.heap[b]? = some (.cells #[v] 22 (0, 0))) (hB : B ≤ b) (hown : w.ownsRow B 5 1 v xs.length xs) (hlen : xs.length + 2 ≤ 140737488355328) :
    Calls Tryd.prog 24 #[.int .i32 n, .pointer (some ⟨b, 0, none⟩)] w (Grew B b v (xs ++ [.int .u8 ((n % 256 : Nat) : Int), .int .u8 ((n / 256 : Nat) : Int)]) w) := by
  obtain ⟨i0, hi, hz0, hz1, hz2⟩ := info_parts infoU8
  have hlt : b < w.heap.size := (Array.getElem?_eq_some_iff.1 hbk).1
  have c0 : w.cell? ⟨b, 0, none⟩ = some v := by rw [Lib.cell_of_heap hbk]; rfl
  have f0 : w.frozen? ⟨b, 0, none⟩ = false := Lib.frozen_of_heap hbk 0
  have hne : some b ≠ v.ownBlock := by
    rcases hown.2 with ⟨rfl, _⟩ | ⟨g, cap, cur, rfl, hb, hh, _⟩
    · simp [Value.ownBlock]
    · intro e
      have : b = g := by simpa [Value.ownBlock] using e
      subst this
      rw [hbk] at hh
      injection hh with hh
      injection hh with _ hh
      exact absurd hh (by decide)
  have HBK := Lib.hid hbk
  clear hbk
  go_enter Tryd.func24, Tryd.ntmps24
  go_wp2_with (at_builtin; refine wpList_append_own _ rfl _ _ 22 rfl B 5 i0 (.int .u8 0) 1 1 Tryd.underlying22 hi hz0 hz1 hz2 rfl (by decide) _ _ _ rfl (hown.alloc _) ⟨w.heap.size, 0, none⟩ 2 2 [.int .u8 ((n % 256 : Nat) : Int), .int .u8 ((n / 256 : Nat) : Int)] rfl rfl ?c1 ?c2 ?c3 ?c4 ?c5 ?_)
  case c1 =>
    intro j u hj
    match j, hj with
    | 0, hj =>
      simp at hj; subst hj; simp [Addr.add]
    | 1, hj =>
      simp at hj; subst hj; simp [Addr.add]
    | (j + 2), hj => simp at hj
  case c2 => intro u hu; simp at hu; rcases hu with rfl | rfl <;> rfl
  case c3 => unfold maxLen; omega
  case c4 => omega
  case c5 => simp; omega
  intro v' w2 hown' hgrow _
  have hb2 : w2.heap[b]? = some (.cells #[v] 22 (0, 0)) := by
    rw [hgrow.block b (by simp; omega) hne, Lib.alloc_old w _ b hlt]
    exact HBK.out
  have d0 : w2.cell? ⟨b, 0, none⟩ = some v := by rw [Lib.cell_of_heap hb2]; rfl
  have f1 : w2.frozen? ⟨b, 0, none⟩ = false := Lib.frozen_of_heap hb2 0
  have hbel : Below B w w2 := ((Below.refl B w).alloc (by omega) _).grown hgrow (by simp; omega) (fun k hk => (hown.lt k hk).1)
  have hkeep : ∀ k, k < w.heap.size → k ≠ b → some k ≠ v.ownBlock → (w2.setCell ⟨b, 0, none⟩ v').heap[k]? = w.heap[k]? := by
    intro k hk hkb hkv
    rw [Below.heap_setCell _ _ _ _ hkb, hgrow.block k (by simp; omega) hkv, Lib.alloc_old w _ k hk]
  have hnew : v'.ownBlock ≠ some b := by
    intro e
    have ht := own_typed hown' b e
    obtain ⟨cells, hc⟩ := ht
    rw [hb2] at hc
    injection hc with hc
    injection hc with _ hc
    exact absurd hc (by decide)
  have hset : (w2.setCell ⟨b, 0, none⟩ v').heap[b]? = some (.cells #[v'] 22 (0, 0)) := by
    simp only [World.setCell, Array.getElem?_modify, if_true, hb2, Option.map_some]
    rfl
  have hown2 : (w2.setCell ⟨b, 0, none⟩ v').ownsRow B 5 1 v' (xs ++ [Value.int .u8 ((n % 256 : Nat) : Int), .int .u8 ((n / 256 : Nat) : Int)]).length (xs ++ [.int .u8 ((n % 256 : Nat) : Int), .int .u8 ((n / 256 : Nat) : Int)]) := by
    refine own_move (by simpa using hown') (fun k hk => Below.heap_setCell _ _ _ _ (fun e => hnew (by rw [hk, e])))
  obtain ⟨g, cap, rfl⟩ : ∃ g cap, v' = .slice (some ⟨g, 0, none⟩) (xs.length + 2) cap := by
    rcases hown'.2 with ⟨_, h0⟩ | ⟨g, cap, cur, hv, _⟩
    · omega
    · exact ⟨g, cap, hv⟩
  have HB2 := Lib.hid hb2
  have HO := Lib.hid hown'
  have HS := Lib.hid hset
  have HK := Lib.hid hkeep
  clear hb2 hown' hset hkeep hgrow
  go_wp2
  go_end0
  exact ⟨rfl, _, HS.out, hown2, hbel.setCell (p := ⟨b, 0, none⟩) hB _, HK.out⟩

theorem ubytes_unit_lo (n : Nat) (h : n < 65536) : ubytes (unit n) = [((n % 256 : Nat) : Int), ((n / 256 : Nat) : Int)] := by unfold unit; rw [if_pos h]; rfl
theorem ubytes_unit_hi (n : Nat) (h : ¬ n < 65536) : ubytes (unit n) = [(((55296 + (n - 65536) / 1024) % 256 : Nat) : Int), (((55296 + (n - 65536) / 1024) / 256 : Nat) : Int)] ++ [(((56320 + (n - 65536) % 1024) % 256 : Nat) : Int), (((56320 + (n - 65536) % 1024) / 256 : Nat) : Int)] := by
  unfold unit; rw [if_neg h]; rfl

theorem nat_mask10 (x : Nat) : x &&& 1023 = x % 1024 := Nat.and_two_pow_sub_one_eq_mod x 10
theorem and1023_i32 (x : Nat) (h : x < 2147483648) : bits .and .i32 (x : Int) 1023 = ((x % 1024 : Nat) : Int) := by
  show IntKind.i32.wrap ((BitVec.ofInt 32 (x : Int) &&& BitVec.ofInt 32 ((1023 : Nat) : Int)).toNat : Int) = _
  rw [BitVec.toNat_and, ofInt_u32 x (by omega), ofInt_u32 1023 (by omega), nat_mask10]
  exact Lib.wrap_i32_small _ (by omega)

/-- The loop's relation: what has been laid, and what is to come. -/
def PutAt (s : ByteArray) (w : World) (b : Nat) (tot : List Int) (pos : Nat) (v : Value) (done : List Int) (wr : World) : Prop :=
  wr.heap[b]? = some (.cells #[v] 22 (0, 0)) ∧ wr.heap[b + 1]? = some (.stringIter s pos) ∧ wr.ownsRow w.heap.size 5 1 v (nums .u8 done).length (nums .u8 done) ∧ Below w.heap.size w wr ∧ valid (s.data.toList.drop pos) = true ∧ done ++ ubytes (units (s.data.toList.drop pos)) = tot

theorem next_at {s : ByteArray} {w wr : World} {b pos : Nat} {v : Value} {done : List Int} (hbk : wr.heap[b]? = some (.cells #[v] 22 (0, 0))) (hit : wr.heap[b + 1]? = some (.stringIter s pos)) (hown : wr.ownsRow w.heap.size 5 1 v (nums .u8 done).length (nums .u8 done)) (hbw : Below w.heap.size w wr) (hB : w.heap.size ≤ b) (pos' : Nat) :
    (wr.iterAt (b + 1) s pos').heap[b]? = some (.cells #[v] 22 (0, 0)) ∧ (wr.iterAt (b + 1) s pos').heap[b + 1]? = some (.stringIter s pos') ∧ (wr.iterAt (b + 1) s pos').ownsRow w.heap.size 5 1 v (nums .u8 done).length (nums .u8 done) ∧ Below w.heap.size w (wr.iterAt (b + 1) s pos') := by
  refine ⟨?_, Lib.iterAt_heap wr (b + 1) s pos pos' hit, ?_, Lib.below_iterAt hbw (by omega) s pos'⟩
  · rw [Lib.iterAt_other _ _ _ _ _ (by omega)]; exact hbk
  · refine own_move hown (fun k hk => Lib.iterAt_other _ _ _ _ _ ?_)
    rintro rfl
    obtain ⟨c, hc⟩ := own_typed hown _ hk
    rw [hit] at hc
    cases hc
theorem put_on {s : ByteArray} {w wr w2 : World} {b pos : Nat} {v v' : Value} {done : List Int} {xs : List Value} (h : wr.heap[b]? = some (.cells #[v] 22 (0, 0)) ∧ wr.heap[b + 1]? = some (.stringIter s pos) ∧ wr.ownsRow w.heap.size 5 1 v (nums .u8 done).length (nums .u8 done) ∧ Below w.heap.size w wr)
    (hbk' : w2.heap[b]? = some (.cells #[v'] 22 (0, 0))) (hown' : w2.ownsRow w.heap.size 5 1 v' (nums .u8 done ++ xs).length (nums .u8 done ++ xs)) (hbel : Below w.heap.size wr w2) (hkeep : ∀ k, k < wr.heap.size → k ≠ b → some k ≠ v.ownBlock → w2.heap[k]? = wr.heap[k]?) (ys : List Int) (hy : xs = nums .u8 ys) :
    w2.heap[b]? = some (.cells #[v'] 22 (0, 0)) ∧ w2.heap[b + 1]? = some (.stringIter s pos) ∧ w2.ownsRow w.heap.size 5 1 v' (nums .u8 (done ++ ys)).length (nums .u8 (done ++ ys)) ∧ Below w.heap.size w w2 := by
  obtain ⟨h1, h2, h3, h4⟩ := h
  refine ⟨hbk', ?_, ?_, h4.trans hbel⟩
  · rw [hkeep (b + 1) (Array.getElem?_eq_some_iff.1 h2).1 (by omega) ?_]
    · exact h2
    · intro e
      obtain ⟨c, hc⟩ := own_typed h3 _ e.symm
      rw [h2] at hc
      cases hc
  · rw [nums_append, ← hy]; exact hown'

set_option maxHeartbeats 4000000 in
set_option maxRecDepth 1000000 in
theorem Put_yes (s : ByteArray) (w : World) (hs : s.size ≤ 17592186044416) (hT : Tabs w) (hv : valid s.data.toList = true) :
    Calls Tryd.prog 10 #[.string s] w fun e w' => ∃ v, e = .returned (.tuple #[v, .int .i64 0]) ∧ Kd.R (Kd.int .u8) 5 w' w.heap.size (fun _ => True) v (ubytes (units s.data.toList)) ∧ Below w.heap.size w w' := by
  have cU := Units_yes s w (by omega) hT hv
  have CU := Lib.hid cU
  clear cU hT
  have HV := Lib.hid hv
  clear hv
  obtain ⟨tot, htot⟩ : ∃ tot, ubytes (units s.data.toList) = tot := ⟨_, rfl⟩
  rw [htot]
  have hlt : tot.length ≤ 4 * s.size := by
    have h1 := ubytes_len (units s.data.toList)
    have h2 := units_len s.data.toList
    rw [htot] at h1
    rw [← size_eq] at h2
    omega
  have HT := Lib.hid htot
  clear htot
  go_enter Tryd.func10, Tryd.ntmps10
  go_wp2_with (go_at_call 12; refine (CU.out).mono ?_; rintro e w1 ⟨rfl, hb1⟩)
  have hz1 := hb1.size
  go_loopw [] (fun wr => ∃ pos v done, PutAt s w w1.heap.size tot pos v done wr) (fun wr => s.size - wr.iterPos (w1.heap.size + 1))
  case atStart =>
    refine ⟨0, .slice none 0 0, [], ?_, ?_, ?_, ?_, HV.out, by rw [List.drop_zero]; simpa using HT.out⟩
    · show ((w1.alloc _).alloc (.stringIter s 0)).heap[w1.heap.size]? = _
      rw [Lib.alloc_old _ _ _ (by simp)]
      exact heap_alloc_new _ _
    · have := World.iter_heap (w1.alloc (.cells #[.slice none 0 0] 22)) s 0
      simpa using this
    · exact own_nil _ _ _ _
    · exact (hb1.alloc hz1 _).alloc (by simp; omega) _
  case round =>
    obtain ⟨pos, v, done, hbk, hit, hown, hbw, hv, hk⟩ := hrel
    have hsz : w1.heap.size + 1 < wr.heap.size := (Array.getElem?_eq_some_iff.1 hit).1
    by_cases hp : pos < s.size
    · obtain ⟨r, wd, hde, hdl, hwd, hd1, hne⟩ := next_facts s pos hp
      have hnx := next_run (P := Tryd.prog) hde hp wr (w1.heap.size + 1) hit
      obtain ⟨h1, h2, _⟩ := units_step hdl hne hv
      -- the same facts behind 'next'
      have hst := next_at hbk hit hown hbw hz1 (pos + wd)
      rw [h1, ubytes_append] at hk
      have hlen : (done ++ (ubytes (unit r) ++ ubytes (units (s.data.toList.drop (pos + wd))))).length = tot.length := by rw [hk]
      rw [List.length_append, List.length_append, ubytes_len] at hlen
      have hul := unit_len r
      have hn5 : (nums .u8 done).length = done.length := nums_length _ _
      have HST := Lib.hid hst
      have HK := Lib.hid hk
      have H2 := Lib.hid h2
      have HIT := Lib.hid hit
      have HN := Lib.hid hn5
      have hdn : done.length + 2 ≤ 4 * s.size := by omega
      have hzw := hbw.size
      clear hst hk h1 h2 hit hn5 hbk hown hv hlen hul hde hdl hne
      by_cases hr : r < 65536
      · have HU := Lib.hid (ubytes_unit_lo _ hr)
        have hdec : decide ((r : Int) < (65536 : Int)) = true := by simp; omega
        go_wp2_with (go_at_call 24; refine (unit_calls w.heap.size w1.heap.size v (nums .u8 done) r _ hr HST.out.1 hz1 HST.out.2.2.1 (by rw [HN.out]; omega)).mono ?_; rintro e w2 ⟨rfl, v', hbk', hown', hbel', hkeep'⟩)
        have hrel' := put_on HST.out hbk' hown' hbel' hkeep' [(((r % 256 : Nat)) : Int), (((r / 256 : Nat)) : Int)] rfl
        have HR := Lib.hid hrel'
        clear hrel' hbk' hown' hbel' hkeep'
        go_wp2
        go_roundw
        case rel => exact ⟨pos + wd, v', done ++ _, HR.out.1, HR.out.2.1, HR.out.2.2.1, HR.out.2.2.2, H2.out, by have := HK.out; rw [HU.out] at this; rw [List.append_assoc]; exact this⟩
        case measure =>
          have e1 := HIT.out
          have e2 := HR.out.2.1
          simp only [World.iterPos, e1, e2]
          omega
      · have HU := Lib.hid (ubytes_unit_hi _ hr)
        have hdec : decide ((r : Int) < (65536 : Int)) = false := by simp; omega
        obtain ⟨m, hm⟩ : ∃ m, r = 65536 + m := ⟨r - 65536, by omega⟩
        have hml : m < 1048576 := by omega
        have e1 : (55296 + ((r : Nat) - 65536 : Int) / 1024) = ((55296 + m / 1024 : Nat) : Int) := by rw [hm]; omega
        have e2 : bits .and .i32 ((r : Nat) - 65536 : Int) 1023 = ((m % 1024 : Nat) : Int) := by
          rw [hm, show (((65536 + m : Nat) : Int) - 65536) = (m : Int) from by omega]
          exact and1023_i32 m (by omega)
        have E1 := Lib.hid e1
        have E2 := Lib.hid e2
        have HM := Lib.hid hm
        clear e1 e2 hm
        go_wp2_with fail
        rw [E1.out]
        refine (unit_calls w.heap.size w1.heap.size v (nums .u8 done) (55296 + m / 1024) _ (by omega) HST.out.1 hz1 HST.out.2.2.1 (by rw [HN.out]; omega)).mono ?_
        rintro e w2 ⟨rfl, v', hbk', hown', hbel', hkeep'⟩
        have hrel' := put_on HST.out hbk' hown' hbel' hkeep' [(((55296 + m / 1024) % 256 : Nat) : Int), (((55296 + m / 1024) / 256 : Nat) : Int)] rfl
        have HR := Lib.hid hrel'
        clear hrel' hbk' hown' hbel' hkeep'
        go_wp2_with fail
        rw [E2.out, show wrap32 (56320 + ((m % 1024 : Nat) : Int)) = ((56320 + m % 1024 : Nat) : Int) from by unfold wrap32; omega]
        have hn6 : (nums .u8 (done ++ [(((55296 + m / 1024) % 256 : Nat) : Int), (((55296 + m / 1024) / 256 : Nat) : Int)])).length = done.length + 2 := by rw [nums_length, List.length_append]; rfl
        have HN6 := Lib.hid hn6
        clear hn6
        refine (unit_calls w.heap.size w1.heap.size v' (nums .u8 (done ++ [(((55296 + m / 1024) % 256 : Nat) : Int), (((55296 + m / 1024) / 256 : Nat) : Int)])) (56320 + m % 1024) _ (by omega) HR.out.1 hz1 HR.out.2.2.1 (by rw [HN6.out]; omega)).mono ?_
        rintro e w3 ⟨rfl, v2, hbk', hown', hbel', hkeep'⟩
        have hrel' := put_on HR.out hbk' hown' hbel' hkeep' [(((56320 + m % 1024) % 256 : Nat) : Int), (((56320 + m % 1024) / 256 : Nat) : Int)] rfl
        have HR2 := Lib.hid hrel'
        clear hrel' hbk' hown' hbel' hkeep'
        go_wp2
        go_roundw
        case rel => exact ⟨pos + wd, v2, (done ++ _) ++ _, HR2.out.1, HR2.out.2.1, HR2.out.2.2.1, HR2.out.2.2.2, H2.out, by
          have hk := HK.out
          have hu := HU.out
          have hm := HM.out
          rw [hu, hm, show 65536 + m - 65536 = m from by omega] at hk
          rw [← hk]; simp only [List.append_assoc]⟩
        case measure =>
          have e1 := HIT.out
          have e2 := HR2.out.2.1
          simp only [World.iterPos, e1, e2]
          omega
    · have hnx : ∀ ty, (Instr.next (.pointer (some ⟨w1.heap.size + 1, 0, none⟩)) true ty).run Tryd.prog wr = _ := fun ty => Lib.run_next_end_at wr (w1.heap.size + 1) s pos ty hit hp
      have he : s.data.toList.drop pos = [] := List.drop_eq_nil_of_le (by rw [← size_eq]; omega)
      have hd : done = tot := by
        have h0 : ubytes (units (s.data.toList.drop pos)) = [] := by rw [he]; rfl
        rw [h0, List.append_nil] at hk
        exact hk
      subst hd
      have c0 : wr.cell? ⟨w1.heap.size, 0, none⟩ = some v := by rw [Lib.cell_of_heap hbk]; rfl
      have hR : Kd.R (Kd.int .u8) 5 wr w.heap.size (fun _ => True) v done := Kd.R_of_own (by rw [nums_length] at hown; exact hown) (fun _ _ => trivial)
      have HR := Lib.hid hR
      clear hk hv he hbk hit hown hR
      go_wp2
      go_ret2
      exact ⟨v, rfl, HR.out, hbw⟩

set_option maxHeartbeats 4000000 in
set_option maxRecDepth 1000000 in
theorem Put_no (s : ByteArray) (w : World) (hs : s.size ≤ 17592186044416) (hT : Tabs w) (hv : valid s.data.toList = false) :
    Calls Tryd.prog 10 #[.string s] w fun e w' => e = .returned (.tuple #[.slice none 0 0, .int .i64 5]) ∧ Below w.heap.size w w' := by
  have cU := Units_no s w (by omega) hT hv
  have CU := Lib.hid cU
  clear cU hT hv
  go_enter Tryd.func10, Tryd.ntmps10
  go_wp2_with (go_at_call 12; refine (CU.out).mono ?_; rintro e w1 ⟨rfl, hb1⟩)
  go_ret2
  exact ⟨rfl, hb1⟩

theorem Put_calls (s : ByteArray) (w : World) (hs : s.size ≤ 17592186044416) (hT : Tabs w) :
    Calls Tryd.prog 10 #[.string s] w fun e w' => ∃ v, e = .returned (.tuple #[v, .int .i64 (errOf s.data.toList)]) ∧ Kd.R (Kd.int .u8) 5 w' w.heap.size (fun _ => True) v (putBytes s.data.toList) ∧ Below w.heap.size w w' := by
  unfold putBytes errOf
  cases hv : valid s.data.toList with
  | true => simp only [if_true]; exact Put_yes s w hs hT hv
  | false =>
    simp only [Bool.false_eq_true, if_false]
    exact (Put_no s w hs hT hv).mono fun e w' ⟨he, hb⟩ => ⟨_, he, Kd.R_nil _ _ _ _ _, hb⟩
end Go.Proofs.YtanncmaojnmldaaDoor.U
