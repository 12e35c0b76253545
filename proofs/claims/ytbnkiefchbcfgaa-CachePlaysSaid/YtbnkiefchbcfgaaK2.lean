/- The texts Csmall, Csettle, Cdown, Cforget, Cown, Cfirst, Capp, Ckn, one behind the other. -/
import Derived.Test.YtbnkiefchbcfgaaK1
import Derived.Deep.LoopGhost
import Derived.Lib.AppendZeros
import Derived.Outline
/- cache: New, Level, Size, Open, Down. -/
set_option linter.unusedVariables false
set_option linter.unusedSimpArgs false
namespace Go.Proofs.Ytbnkiefchbcfgaa.U
open Go.RowKit Go.Proofs Go.Lib Go.Proofs.YtbnkiefchbcfgaaW.PrintWords
variable {N : Nat → Prop}

set_option maxHeartbeats 1000000 in
theorem coff_on (C : Nat) (w : World) (hc : w.cell? ⟨C, 0, none⟩ = some (.bool true)) :
    Calls Try.prog 36 #[.pointer (some ⟨C, 0, none⟩)] w fun e w' => e = .returned (.bool false) ∧ w' = w := off_on C w hc
section
variable {w : World} {C lvl size : Nat} {xs os : List Ext} {lA oA : Option Addr} {c oc : Nat}
set_option maxHeartbeats 1000000 in
theorem Level_calls (h : CacheAt w N C lvl size xs os lA c oA oc) :
    Calls Try.prog 25 #[.pointer (some ⟨C, 0, none⟩)] w fun e w' => e = .returned (.int .u8 (lvl : Int)) ∧ w' = w := by
  have C1 := Lib.hid (off_on C w h.c0)
  have q := h.c1
  clear h
  generalize os.length = on at *
  go_enter Try.func25, Try.ntmps25
  go_wp2_with fail
  refine (C1.out).mono ?_
  rintro e w1 ⟨rfl, rfl⟩
  go_wp2
  go_ret
  exact ⟨rfl, rfl⟩
set_option maxHeartbeats 1000000 in
theorem Size_calls (h : CacheAt w N C lvl size xs os lA c oA oc) :
    Calls Try.prog 27 #[.pointer (some ⟨C, 0, none⟩)] w fun e w' => e = .returned (.int .i64 (size : Int)) ∧ w' = w := by
  have C1 := Lib.hid (off_on C w h.c0)
  have q := h.c2
  clear h
  generalize os.length = on at *
  go_enter Try.func27, Try.ntmps27
  go_wp2_with fail
  refine (C1.out).mono ?_
  rintro e w1 ⟨rfl, rfl⟩
  go_wp2
  go_ret
  exact ⟨rfl, rfl⟩
set_option maxHeartbeats 1000000 in
theorem Open_calls (h : CacheAt w N C lvl size xs os lA c oA oc) :
    Calls Try.prog 17 #[.pointer (some ⟨C, 0, none⟩)] w fun e w' => e = .returned (.int .i64 (os.length : Int)) ∧ w' = w := by
  have C1 := Lib.hid (off_on C w h.c0)
  have q := h.c4
  clear h
  generalize os.length = on at *
  go_enter Try.func17, Try.ntmps17
  go_wp2_with fail
  refine (C1.out).mono ?_
  rintro e w1 ⟨rfl, rfl⟩
  go_wp2
  go_ret
  exact ⟨rfl, rfl⟩
end
set_option maxHeartbeats 2000000 in
theorem New_ok (lvl size : Nat) (w : World) (hl : lvl ≤ 3) (hs : size ≤ 65536) :
    Calls Try.prog 11 #[.int .u8 (lvl : Int), .int .i64 (size : Int)] w fun e w' => e = .returned (.tuple #[.pointer (some ⟨w.heap.size, 0, none⟩), .int .i64 0]) ∧ CacheAt w' N w.heap.size lvl size [] [] none 0 none 0 ∧ Below w.heap.size w w' := by
  have d1 : decide ((3 : Int) < (lvl : Int)) = false := by simp; omega
  have d2 : decide ((size : Int) < 0) = false := by simp
  have d3 : decide ((65536 : Int) < (size : Int)) = false := by simp; omega
  have hb := (Below.refl w.heap.size w).alloc (Nat.le_refl _) (.cells #[.bool true, .int .u8 (lvl : Int), .int .i64 (size : Int), .slice none 0 0, .slice none 0 0] 57)
  have hO := heap_alloc_new w (.cells #[.bool true, .int .u8 (lvl : Int), .int .i64 (size : Int), .slice none 0 0, .slice none 0 0] 57)
  have HB := Lib.hid hb
  have HO := Lib.hid hO
  clear hb hO
  go_enter Try.func11, Try.ntmps11
  go_wp2
  go_ret2
  exact ⟨rfl, ⟨HO.out, .inl ⟨rfl, rfl, rfl⟩, .inl ⟨rfl, rfl, rfl⟩, fun L O o e => by cases e⟩, HB.out⟩
end Go.Proofs.Ytbnkiefchbcfgaa.U
/- cache: Settle, Down. -/
set_option linter.unusedVariables false
set_option linter.unusedSimpArgs false
namespace Go.Proofs.Ytbnkiefchbcfgaa.U
open Go.RowKit Go.Proofs Go.Lib Go.Proofs.YtbnkiefchbcfgaaW.PrintWords
variable {N : Nat → Prop}

theorem run_tail (A : Option Addr) (n c : Nat) (h1 : 1 ≤ n) (hn : n ≤ c) (W : World) :
    (Instr.slice 23 (.slice A n c) (some (.int .i64 1)) (some (.int .i64 (n : Int))) (some (.int .i64 (n : Int)))).run Try.prog W = .ok (.slice (segA A n 1) (n - 1) (n - 1)) W := by
  obtain ⟨i0, hi0, hz0, hz1, hz2⟩ := info_parts infoE
  have he : Try.prog.elem 23 = 32 := by kernel_rfl
  rw [run_slice_lhm W 23 A n c (by rw [he]; exact Try.underlying23) .i64 .i64 .i64 1 (n : Int) (n : Int) (by omega) (by omega) (by omega) (by omega), he]
  simp [sizeOf, typeInfo, hi0, hz1, sliced, segA]
/-- The first of the open ones is settled; room may stay behind. -/
theorem OpenAt.tail_ {w : World} {oA : Option Addr} {oc : Nat} {x : Ext} {os : List Ext} (h : OpenAt w N oA oc (x :: os)) (n m : Nat) (hn : n = 1 → m = 0) (hm : m + 1 ≤ oc) (ho : os.length ≤ m) : OpenAt w N (segA oA n 1) m os ∧ SameL w oA (segA oA n 1) := by
  rcases h with ⟨_, h2, _⟩ | ⟨O, k, cs, rfl, hO, hs, hc, he⟩
  · cases h2
  · rw [List.length_cons] at hc
    by_cases h0 : n = 1
    · have hm0 := hn h0
      obtain rfl : os = [] := List.eq_nil_of_length_eq_zero (by omega)
      have e : segA (some ⟨O, k * 2, none⟩) n 1 = some ⟨O, k * 2, none⟩ := by unfold segA; rw [if_pos h0]
      rw [e]
      exact ⟨.inr ⟨O, k, cs, rfl, hO, by omega, ho, fun j y hj => by simp at hj⟩, SameL.refl _ _⟩
    · have e : segA (some ⟨O, k * 2, none⟩) n 1 = some ⟨O, (k + 1) * 2, none⟩ := by
        unfold segA
        rw [if_neg (by omega)]
        show some ((⟨O, k * 2, none⟩ : Addr).add (1 * 2)) = _
        rw [Addr.add_lit]
        congr 2
        omega
      rw [e]
      refine ⟨.inr ⟨O, k + 1, cs, rfl, hO, by omega, ho, fun j y hj => ?_⟩, fun L o eL => ?_⟩
      · obtain ⟨A, c', q1, q2, q3⟩ := he (j + 1) y (by rw [List.getElem?_cons_succ]; exact hj)
        rw [List.getElem?_toArray, List.getElem?_drop] at q1 q2
        refine ⟨A, c', ?_, ?_, q3⟩
        · rw [List.getElem?_toArray, List.getElem?_drop, ← q1]
          congr 1
          omega
        · rw [List.getElem?_toArray, List.getElem?_drop, ← q2]
          congr 1
          omega
      · injection eL with eL
        injection eL with e1 _
        subst e1
        exact .inl ⟨_, rfl⟩
theorem OpenAt.tail {w : World} {oA : Option Addr} {oc : Nat} {x : Ext} {os : List Ext} (h : OpenAt w N oA oc (x :: os)) : OpenAt w N (segA oA (os.length + 1) 1) os.length os ∧ SameL w oA (segA oA (os.length + 1) 1) ∧ os.length + 1 ≤ oc := by
  have hc : os.length + 1 ≤ oc := by
    rcases h with ⟨_, h2, _⟩ | ⟨O, k, cs, rfl, hO, hs, hc, he⟩
    · cases h2
    · exact hc
  obtain ⟨r1, r2⟩ := h.tail_ (os.length + 1) os.length (by omega) hc (Nat.le_refl _)
  exact ⟨r1, r2, hc⟩
section
variable {w : World} {C lvl size : Nat} {xs os : List Ext} {lA oA : Option Addr} {c oc : Nat}
/-- A cell of the cache's own block is set: the rows stand. -/
theorem CacheAt.rows_set (h : CacheAt w N C lvl size xs os lA c oA oc) (j : Nat) (v : Value) : KnownAt (w.setCell ⟨C, j, none⟩ v) N lA c xs ∧ ∀ {oA' : Option Addr} {oc' : Nat} {os' : List Ext}, OpenAt w N oA' oc' os' → OpenAt (w.setCell ⟨C, j, none⟩ v) N oA' oc' os' := by
  have hu : ∀ (g : Nat) (cs : Array Value) (fz : Nat × Nat), w.heap[g]? = some (Obj.cells cs 5 fz) → (w.setCell ⟨C, j, none⟩ v).heap[g]? = some (Obj.cells cs 5 fz) := fun g cs fz hh => by
    rw [set_other _ (ne_block hh h.head (by decide))]
    exact hh
  refine ⟨h.known.kept (fun L o e => ?_) hu, fun ho => ho.kept (fun L o e => ?_) hu⟩
  · obtain ⟨_, _, cs, hL⟩ := h.known.at_ e
    exact set_other _ (ne_block hL h.head (by decide))
  · obtain ⟨_, cs, hL⟩ := ho.at_ e
    exact set_other _ (ne_block hL h.head (by decide))
set_option maxHeartbeats 2000000 in
theorem Settle_none (h : CacheAt w N C lvl size xs [] lA c oA oc) :
    Calls Try.prog 19 #[.pointer (some ⟨C, 0, none⟩)] w fun e w' => e = .returned (.int .i64 17) ∧ w' = w := by
  have C1 := Lib.hid (off_on C w h.c0)
  have q := h.c4
  rw [List.length_nil] at q
  clear h
  go_enter Try.func19, Try.ntmps19
  go_wp2_with fail
  refine (C1.out).mono ?_
  rintro e w1 ⟨rfl, rfl⟩
  go_wp2
  go_ret
  exact ⟨rfl, rfl⟩
set_option maxHeartbeats 4000000 in
theorem Settle_calls {x : Ext} (h : CacheAt w N C lvl size xs (x :: os) lA c oA oc) :
    Calls Try.prog 19 #[.pointer (some ⟨C, 0, none⟩)] w fun e w' => e = .returned (.int .i64 0) ∧ ∃ oA' oc', CacheAt w' N C lvl size xs os lA c oA' oc' ∧ FrC w w' C lA oA ∧ SameL w oA oA' := by
  have C1 := Lib.hid (off_on C w h.c0)
  obtain ⟨t1, t2, t3⟩ := h.opn.tail
  have q := h.c4
  have f := Lib.frozen_of_heap h.head 4
  have HD := Lib.hid h
  rw [List.length_cons] at q
  obtain ⟨n, hn⟩ : ∃ n, os.length + 1 = n := ⟨_, rfl⟩
  have hseg := fun W => run_tail oA n oc (by omega) (by omega) W
  rw [hn] at q t1 t2 t3
  obtain ⟨SA, hSA⟩ : ∃ SA, segA oA n 1 = SA := ⟨_, rfl⟩
  obtain ⟨k, hk⟩ : ∃ k, n - 1 = k := ⟨_, rfl⟩
  have hok : os.length = k := by omega
  rw [hSA] at t1 t2
  rw [hok] at t1
  rw [hSA, hk] at hseg
  have T1 := Lib.hid t1
  have T2 := Lib.hid t2
  have HK := Lib.hid hok
  have d1 : ((n : Int) == 0) = false := by simp; omega
  clear h t1 t2 hSA hk hok hn
  go_enter Try.func19, Try.ntmps19
  go_wp2_with fail
  refine (C1.out).mono ?_
  rintro e w1 ⟨rfl, rfl⟩
  go_wp2
  go_ret
  obtain ⟨r1, r2⟩ := HD.out.rows_set 4 (.slice SA k k)
  refine ⟨rfl, SA, k, ⟨?_, r1, r2 T1.out, fun L O o e1 e2 => ?_⟩, (FrC.refl _ _ _ _).set 4 _, T2.out⟩
  · rw [set_cell HD.out.head, HK.out]
    rfl
  · rcases T2.out O o e2 with ⟨o', h1⟩ | h1
    · exact HD.out.apart L O o' e1 h1
    · have := (HD.out.known.at_ e1).2.1
      omega
end
end Go.Proofs.Ytbnkiefchbcfgaa.U
/- cache: Down. -/
set_option linter.unusedVariables false
set_option linter.unusedSimpArgs false
namespace Go.Proofs.Ytbnkiefchbcfgaa.U
open Go.RowKit Go.Proofs Go.Lib Go.Proofs.YtbnkiefchbcfgaaW.PrintWords
variable {N : Nat → Prop} {w : World} {C lvl size : Nat} {xs os : List Ext} {lA oA : Option Addr} {c oc : Nat}

set_option maxHeartbeats 4000000 in
theorem Down_arg (l : Nat) (h : CacheAt w N C lvl size xs os lA c oA oc) (hl : lvl ≤ l) :
    Calls Try.prog 26 #[.pointer (some ⟨C, 0, none⟩), .int .u8 (l : Int)] w fun e w' => e = .returned (.int .i64 2) ∧ w' = w := by
  have C1 := Lib.hid (off_on C w h.c0)
  have q := h.c1
  have d1 : decide ((lvl : Int) ≤ (l : Int)) = true := by simp; omega
  clear h
  go_enter Try.func26, Try.ntmps26
  go_wp2_with fail
  refine (C1.out).mono ?_
  rintro e w1 ⟨rfl, rfl⟩
  go_wp2
  go_ret
  exact ⟨rfl, rfl⟩
set_option maxHeartbeats 4000000 in
theorem Down_state (l : Nat) (h : CacheAt w N C lvl size xs os lA c oA oc) (hl : l < lvl) (h2 : l < 2) (ho : 0 < os.length) :
    Calls Try.prog 26 #[.pointer (some ⟨C, 0, none⟩), .int .u8 (l : Int)] w fun e w' => e = .returned (.int .i64 17) ∧ w' = w := by
  have C1 := Lib.hid (off_on C w h.c0)
  have q := h.c1
  have q4 := h.c4
  have d1 : decide ((lvl : Int) ≤ (l : Int)) = false := by simp; omega
  have d2 : decide ((l : Int) < 2) = true := by simp; omega
  have d3 : decide ((0 : Int) < (os.length : Int)) = true := by simp; omega
  clear h
  generalize os.length = on at *
  go_enter Try.func26, Try.ntmps26
  go_wp2_with fail
  refine (C1.out).mono ?_
  rintro e w1 ⟨rfl, rfl⟩
  go_wp2
  go_ret
  exact ⟨rfl, rfl⟩
set_option maxHeartbeats 4000000 in
theorem Down_some (l : Nat) (h : CacheAt w N C lvl size xs os lA c oA oc) (hl : l < lvl) (h0 : 0 < l) (h2 : 2 ≤ l ∨ os.length = 0) :
    Calls Try.prog 26 #[.pointer (some ⟨C, 0, none⟩), .int .u8 (l : Int)] w fun e w' => e = .returned (.int .i64 0) ∧ CacheAt w' N C l size xs os lA c oA oc ∧ FrC w w' C lA oA := by
  have C1 := Lib.hid (off_on C w h.c0)
  have q := h.c1
  have q4 := h.c4
  have f := Lib.frozen_of_heap h.head 1
  obtain ⟨r1, r2⟩ := h.rows_set 1 (.int .u8 (l : Int))
  have hfin : CacheAt (w.setCell ⟨C, 1, none⟩ (.int .u8 (l : Int))) N C l size xs os lA c oA oc := ⟨by rw [set_cell h.head]; rfl, r1, r2 h.opn, h.apart⟩
  have HF := Lib.hid hfin
  have d1 : decide ((lvl : Int) ≤ (l : Int)) = false := by simp; omega
  have d4 : ((l : Int) == 0) = false := by simp; omega
  clear h r1 r2 hfin
  generalize os.length = on at *
  by_cases hl2 : l < 2
  · have d2 : decide ((l : Int) < 2) = true := by simp; omega
    have hon : on = 0 := by omega
    subst hon
    go_enter Try.func26, Try.ntmps26
    go_wp2_with fail
    refine (C1.out).mono ?_
    rintro e w1 ⟨rfl, rfl⟩
    go_wp2
    go_ret
    exact ⟨rfl, HF.out, (FrC.refl _ _ _ _).set 1 _⟩
  · have d2 : decide ((l : Int) < 2) = false := by simp; omega
    go_enter Try.func26, Try.ntmps26
    go_wp2_with fail
    refine (C1.out).mono ?_
    rintro e w1 ⟨rfl, rfl⟩
    go_wp2
    go_ret
    exact ⟨rfl, HF.out, (FrC.refl _ _ _ _).set 1 _⟩
set_option maxHeartbeats 4000000 in
theorem Down_zero (h : CacheAt w N C lvl size xs [] lA c oA oc) (hl : 0 < lvl) :
    Calls Try.prog 26 #[.pointer (some ⟨C, 0, none⟩), .int .u8 0] w fun e w' => e = .returned (.int .i64 0) ∧ CacheAt w' N C 0 size [] [] none 0 oA oc ∧ FrC w w' C lA oA := by
  have C1 := Lib.hid (off_on C w h.c0)
  have q := h.c1
  have q4 := h.c4
  rw [List.length_nil] at q4
  have f := Lib.frozen_of_heap h.head 1
  obtain ⟨r1, r2⟩ := h.rows_set 1 (.int .u8 0)
  have h1 : CacheAt (w.setCell ⟨C, 1, none⟩ (.int .u8 0)) N C 0 size xs [] lA c oA oc := ⟨by rw [set_cell h.head]; rfl, r1, r2 h.opn, h.apart⟩
  have f3 := Lib.frozen_of_heap h1.head 3
  have q3 := h1.c3
  obtain ⟨s1, s2⟩ := h1.rows_set 3 (.slice none 0 0)
  have hfin : CacheAt ((w.setCell ⟨C, 1, none⟩ (.int .u8 0)).setCell ⟨C, 3, none⟩ (.slice none 0 0)) N C 0 size [] [] none 0 oA oc := ⟨by rw [set_cell h1.head]; rfl, .inl ⟨rfl, rfl, rfl⟩, s2 h1.opn, fun L O o e => by cases e⟩
  have HF := Lib.hid hfin
  have d1 : decide ((lvl : Int) ≤ 0) = false := by simp; omega
  clear h r1 r2 hfin h1 s1 s2
  go_enter Try.func26, Try.ntmps26
  go_wp2_with fail
  refine (C1.out).mono ?_
  rintro e w1 ⟨rfl, rfl⟩
  go_wp2
  go_ret
  exact ⟨rfl, HF.out, ((FrC.refl _ _ _ _).set 1 _).set 3 _⟩
end Go.Proofs.Ytbnkiefchbcfgaa.U
/- cache: Forget. -/
set_option linter.unusedVariables false
set_option linter.unusedSimpArgs false
namespace Go.Proofs.Ytbnkiefchbcfgaa.U
open Go.RowKit Go.Proofs Go.Lib Go.Proofs.YtbnkiefchbcfgaaW.PrintWords
variable {N : Nat → Prop} {w : World} {C lvl size : Nat} {xs os : List Ext} {lA oA : Option Addr} {c oc : Nat}

set_option maxHeartbeats 4000000 in
theorem Forget_state (n : Int) (h : CacheAt w N C lvl size xs os lA c oA oc) (ho : 0 < os.length) :
    Calls Try.prog 35 #[.pointer (some ⟨C, 0, none⟩), .int .i64 n] w fun e w' => e = .returned (.int .i64 17) ∧ w' = w := by
  have C1 := Lib.hid (off_on C w h.c0)
  have q4 := h.c4
  have d3 : decide ((0 : Int) < (os.length : Int)) = true := by simp; omega
  clear h
  generalize os.length = on at *
  go_enter Try.func35, Try.ntmps35
  go_wp2_with fail
  refine (C1.out).mono ?_
  rintro e w1 ⟨rfl, rfl⟩
  go_wp2
  go_ret
  exact ⟨rfl, rfl⟩
set_option maxHeartbeats 4000000 in
theorem Forget_arg (n : Int) (h : CacheAt w N C lvl size xs [] lA c oA oc) (hn : n < 0 ∨ 65536 < n) :
    Calls Try.prog 35 #[.pointer (some ⟨C, 0, none⟩), .int .i64 n] w fun e w' => e = .returned (.int .i64 2) ∧ w' = w := by
  have C1 := Lib.hid (off_on C w h.c0)
  have q4 := h.c4
  rw [List.length_nil] at q4
  clear h
  by_cases h1 : n < 0
  · have d1 : decide (n < 0) = true := by simp; omega
    go_enter Try.func35, Try.ntmps35
    go_wp2_with fail
    refine (C1.out).mono ?_
    rintro e w1 ⟨rfl, rfl⟩
    go_wp2
    go_ret
    exact ⟨rfl, rfl⟩
  · have d1 : decide (n < 0) = false := by simp; omega
    have d2 : decide (65536 < n) = true := by simp; omega
    go_enter Try.func35, Try.ntmps35
    go_wp2_with fail
    refine (C1.out).mono ?_
    rintro e w1 ⟨rfl, rfl⟩
    go_wp2
    go_ret
    exact ⟨rfl, rfl⟩
set_option maxHeartbeats 8000000 in
set_option maxRecDepth 1000000 in
theorem Forget_calls (n : Nat) (h : CacheAt w N C lvl size xs [] lA c oA oc) (hn : n ≤ 65536) :
    Calls Try.prog 35 #[.pointer (some ⟨C, 0, none⟩), .int .i64 (n : Int)] w fun e w' => e = .returned (.int .i64 0) ∧ CacheAt w' N C lvl n [] [] none 0 oA oc ∧ FrC w w' C lA oA := by
  have C1 := Lib.hid (off_on C w h.c0)
  have q4 := h.c4
  have q3 : w.cell? ⟨C, 3, none⟩ = some (.slice lA xs.length c) := h.c3
  rw [List.length_nil] at q4
  have f3 : w.frozen? ⟨C, 3, none⟩ = false := Lib.frozen_of_heap h.head 3
  have hd : CacheAt w N C lvl size xs [] lA c oA oc := ⟨h.head, h.known, h.opn, h.apart⟩
  obtain ⟨r1, r2⟩ := hd.rows_set 3 (.slice none 0 0)
  have h1 : CacheAt (w.setCell ⟨C, 3, none⟩ (.slice none 0 0)) N C lvl size [] [] none 0 oA oc := ⟨by rw [set_cell hd.head]; rfl, .inl ⟨rfl, rfl, rfl⟩, r2 hd.opn, fun L O o e => by cases e⟩
  have q2 := h1.c2
  have f2 := Lib.frozen_of_heap h1.head 2
  obtain ⟨s1, s2⟩ := h1.rows_set 2 (.int .i64 (n : Int))
  have hfin : CacheAt ((w.setCell ⟨C, 3, none⟩ (.slice none 0 0)).setCell ⟨C, 2, none⟩ (.int .i64 (n : Int))) N C lvl n [] [] none 0 oA oc := ⟨by rw [set_cell h1.head]; rfl, .inl ⟨rfl, rfl, rfl⟩, s2 h1.opn, fun L O o e => by cases e⟩
  have HF := Lib.hid hfin
  have d1 : decide ((n : Int) < 0) = false := by simp
  have d2 : decide ((65536 : Int) < (n : Int)) = false := by simp; omega
  clear h r1 r2 hfin h1 s1 s2 hd
  go_enter Try.func35, Try.ntmps35
  go_wp2_with fail
  refine (C1.out).mono ?_
  rintro e w1 ⟨rfl, rfl⟩
  go_wp2
  go_ret
  exact ⟨rfl, HF.out, ((FrC.refl _ _ _ _).set 3 _).set 2 _⟩
end Go.Proofs.Ytbnkiefchbcfgaa.U
/- cache: rows of pieces that are new, whole blocks of bytes; Pieces; Wide, Spoil, Copy. -/
set_option linter.unusedVariables false
set_option linter.unusedSimpArgs false
namespace Go.Proofs.Ytbnkiefchbcfgaa.U
open Go.RowKit Go.Proofs Go.Lib Go.Proofs.YtbnkiefchbcfgaaW.PrintWords
variable {N : Nat → Prop}

theorem step_append_run {P : Program} (w : World) {ops : Array Oper} {o : Oper} {a : Act} {K : Act → World → Prop} {Q : Exit → Act → World → Prop} {E : Prop} (hgd : o.guard = none) (s x : Operand) (t tn : TypeId)
    (ho : o.op = .call { callee := .builtin .append, args := #[s, x], argTypes := #[t, tn] }) (vs vx : Value) (hs : a.eval s = vs) (hx : a.eval x = vx)
    (v' : Value) (w' : World) (hr : (Builtin.append_ #[t, tn] o.type #[vs, vx]).run P w = .ok v' w') (h : K (a.put o.dst v') w') : if Region.wanted o (yielded ops a.tmps) = true then Oper.wp P o a w K Q else E := by
  have hw : Region.wanted o (yielded ops a.tmps) = true := by simp [Region.wanted, hgd]
  rw [if_pos hw]
  exact Lib.wp_append_run w s x t tn ho vs vx hs hx v' w' hr h
theorem RowAt.u8_kept {w w' : World} {v : Value} {n : Nat} {l : List Value} (h : RowAt w v n l) (hg : w.grownBy w' v.ownBlock) : ∀ (g : Nat) (cs : Array Value) (fz : Nat × Nat), w.heap[g]? = some (Obj.cells cs 5 fz) → w'.heap[g]? = some (Obj.cells cs 5 fz) := by
  intro g cs fz hh
  have hlt := (Array.getElem?_eq_some_iff.1 hh).1
  rw [hg.block g hlt (fun e => ?_)]
  · exact hh
  · rcases h.2 with ⟨rfl, _⟩ | ⟨L, c, sp, rfl, hL, _⟩
    · cases e
    · simp only [Value.ownBlock, Option.some.injEq] at e
      subst e
      exact ne_block hh hL (by decide) rfl
/-- A row of pieces that is new: from block base on, the bytes too. -/
def NewX (w : World) (base : Nat) (v : Value) (xs : List Ext) : Prop := ∃ l, RowAt w v xs.length l ∧ EC w (fun k => k < base) l.toArray xs ∧ (∀ k, v.ownBlock = some k → base ≤ k) ∧ ∀ u ∈ l, u.oneCell' = true
theorem NewX.nil (w : World) (base : Nat) : NewX w base (.slice none 0 0) [] := ⟨[], ⟨rfl, .inl ⟨rfl, rfl⟩⟩, fun j x hj => by simp at hj, fun k hk => (by cases hk), fun u hu => (by cases hu)⟩
theorem NewX.below {w w' : World} {base : Nat} {v : Value} {xs : List Ext} (h : NewX w base v xs) (hb : Below w.heap.size w w') : NewX w' base v xs := by
  obtain ⟨l, h1, h2, h3, h4⟩ := h
  exact ⟨l, h1.below hb, h2.kept fun g cs fz hh => kept_below hb _ _ hh, h3, h4⟩
theorem NewX.length {w : World} {base : Nat} {v : Value} {xs : List Ext} (h : NewX w base v xs) : ∃ A c, v = .slice A xs.length c := by
  obtain ⟨l, h1, _⟩ := h
  exact h1.slice
/-- One piece more. -/
theorem NewX.snoc {w : World} {base V cV : Nat} {v : Value} {xs : List Ext} {x : Ext} {A : Option Addr} {c : Nat} {fz : Nat × Nat} (ty : TypeId) (h : NewX w base v xs) (hV : w.heap[V]? = some (.cells #[.int .i64 (x.1 : Int), .slice A x.2.length c] 32 fz)) (hB : BR w A c x.2) (hA : ∀ g o, A = some ⟨g, o, none⟩ → base ≤ g) (hn : xs.length ≤ 1000000) (hbase : base ≤ w.heap.size) :
    ∃ v' w', (Builtin.append_ #[23, 23] ty #[v, .slice (some ⟨V, 0, none⟩) 1 cV]).run Try.prog w = .ok v' w' ∧ NewX w' base v' (xs ++ [x]) ∧ w.grownBy w' v.ownBlock := by
  obtain ⟨l, h1, h2, h3, h4⟩ := h
  obtain ⟨v', w', r1, r2, r3, r4⟩ := run_appendE w ty v xs.length l V cV _ _ fz h1 hV rfl rfl hn h4
  refine ⟨v', w', r1, ⟨l ++ [.int .i64 (x.1 : Int), .slice A x.2.length c], ?_, ?_, fun k hk => ?_, fun u hu => ?_⟩, r3⟩
  · rw [List.length_append]; exact r2
  · have hk := h1.u8_kept r3
    have := (h2.kept hk).replace h1.1 (i := xs.length) (j := xs.length) (Nat.le_refl _) (Nat.le_refl _) x A c (hB.kept hk) (fun g o e hg => by have := hA g o e; omega)
    rw [List.take_of_length_le (by rw [h1.1]; exact Nat.le_refl _), List.drop_eq_nil_of_le (by rw [h1.1]; exact Nat.le_refl _), List.append_nil, List.take_of_length_le (Nat.le_refl _), List.drop_eq_nil_of_le (Nat.le_refl _)] at this
    exact this
  · rcases r4 k hk with h5 | h5
    · exact h3 k h5
    · omega
  · rcases List.mem_append.1 hu with hu | hu
    · exact h4 u hu
    · simp only [List.mem_cons, List.not_mem_nil, or_false] at hu
      rcases hu with rfl | rfl <;> rfl
def AllU8 (w : World) (v : Value) : Prop := ∀ g, v.ownBlock = some g → ∃ cs : List Int, w.heap[g]? = some (.cells (nums .u8 cs).toArray 5 (0, 0))
theorem AllU8.nil (w : World) (n c : Nat) : AllU8 w (.slice none n c) := fun g h => by simp [Value.ownBlock] at h
theorem AllU8.move {w w' : World} {v : Value} (h : AllU8 w v) (hk : ∀ k, v.ownBlock = some k → w'.heap[k]? = w.heap[k]?) : AllU8 w' v := by
  intro g hg
  obtain ⟨cs, hc⟩ := h g hg
  exact ⟨cs, (hk g hg).trans hc⟩
theorem AllU8.below {w w' : World} {v : Value} (h : AllU8 w v) (hb : Below w.heap.size w w') : AllU8 w' v :=
  h.move fun k hk => by
    obtain ⟨cs, hc⟩ := h k hk
    exact hb.block k (Array.getElem?_eq_some_iff.1 hc).1
theorem zero_bytes (n : Nat) : Builtin.zeroCells (Value.int .u8 0).cells n = (nums .u8 (List.replicate n 0)).toArray := by
  apply Array.ext
  · simp [Builtin.zeroCells, nums, Value.cells]
  · intro i h1 h2
    simp [Builtin.zeroCells, nums, Value.cells, Nat.mod_one]
theorem nums_take (xs : List Int) (n : Nat) : (nums .u8 xs).take n = nums .u8 (xs.take n) := by simp [nums]
theorem nums_drop (xs : List Int) (n : Nat) : (nums .u8 xs).drop n = nums .u8 (xs.drop n) := by simp [nums]

section
variable {P : Program}
/-- append on such a list: it stays one. -/
theorem run_append_bytes (w : World) (base : Nat) (t ty : TypeId) (i : TypeInfo) (ht : P.underlying t = some (.slice 5)) (hi : P.info? 5 = some i) (hz : i.zero = some (.int .u8 0)) (hsize : i.size = 1) (hby : i.bytes = 1)
    (v : Value) (xs : List Int) (hown : w.ownsRow base 5 1 v xs.length (nums .u8 xs)) (hU : AllU8 w v)
    (a : Addr) (m c : Nat) (ys : List Int) (hl : ys.length = m) (hnews : ∀ j u, (nums .u8 ys)[j]? = some u → w.cell? (a.add j) = some u)
    (hbytes : xs.length + m ≤ 140737488355328) (hbase : base ≤ w.heap.size) :
    ∃ v' w', (Builtin.append_ #[t, t] ty #[v, .slice (some a) m c]).run P w = .ok v' w' ∧ w'.ownsRow base 5 1 v' (xs.length + m) (nums .u8 xs ++ nums .u8 ys) ∧ w.grownBy w' v.ownBlock ∧ AllU8 w' v' := by
  have h1 : ∀ u ∈ nums .u8 ys, u.oneCell' = true := by
    intro u hu
    obtain ⟨z, _, rfl⟩ := List.mem_map.1 hu
    rfl
  have hml : xs.length + m ≤ maxLen := by unfold maxLen; omega
  obtain ⟨v', w', hr, e1, e2, e3⟩ := run_append_own (P := P) w base t ty 5 i (.int .u8 0) 1 1 ht hi hz hsize hby rfl (by decide) v xs.length (nums .u8 xs) hown a m c (nums .u8 ys) (by rw [nums_length]; omega) hnews h1 hml (by omega) hbase
  refine ⟨v', w', hr, e1, e2, ?_⟩
  have hsm : ((xs.length + m : Nat) : Int) ≤ 9223372036854775807 := by omega
  rcases hown.2 with ⟨rfl, hn0⟩ | ⟨g, cap, cur, rfl, hbg, hg, hnc, hcm, hcs, htake⟩
  · by_cases hm : m = 0
    · have := e3.2 ⟨rfl, hm⟩
      subst this
      exact AllU8.nil _ _ _
    · have hx : xs = [] := List.eq_nil_of_length_eq_zero hn0
      subst hx
      have hr' := run_append_nil (P := P) w t ty 5 i (.int .u8 0) ht hi hz a m c (nums .u8 ys) (by rw [nums_length, hsize]; omega) hnews (by omega) (by omega) (by rw [hby]; simp at hbytes; omega)
      rw [hr] at hr'
      injection hr' with hv hw
      subst hv hw
      intro g hg
      simp [Value.ownBlock] at hg
      subst hg
      refine ⟨ys ++ List.replicate (grownCap w m 0 5 - m) 0, ?_⟩
      have := heap_alloc_new w.drew (.cells ((nums .u8 ys).toArray ++ Builtin.zeroCells (Value.int .u8 0).cells (grownCap w m 0 5 - m)) 5)
      rw [zero_bytes] at this ⊢
      rw [nums_append]
      simpa using this
  · obtain ⟨cs, hcell⟩ := hU g rfl
    rw [hg] at hcell
    injection hcell with hcell
    injection hcell with hcur _ _
    subst hcur
    by_cases hroom : xs.length + m ≤ cap
    · have hr' := run_append_room (P := P) w t ty 5 i ht hi g xs.length cap _ hg a m c (nums .u8 ys) (by rw [nums_length, hsize]; omega) hnews h1 hroom (by rw [nums_length, hsize, hcs]; omega)
      rw [hr] at hr'
      injection hr' with hv hw
      subst hv hw
      intro g' hg'
      simp [Value.ownBlock] at hg'
      subst hg'
      refine ⟨cs.take (xs.length * i.size) ++ ys ++ cs.drop (xs.length * i.size + (nums .u8 ys).length), ?_⟩
      rw [setRow_heap w g _ _ _ _ hg]
      simp only [List.toList_toArray, nums_append, nums_take, nums_drop]
    · have holds : ∀ j u, (nums .u8 xs)[j]? = some u → w.cell? ((⟨g, 0, none⟩ : Addr).add j) = some u := hown.cells (g := g) rfl
      have hr' := run_append_grow (P := P) w t ty 5 i (.int .u8 0) ht hi hz ⟨g, 0, none⟩ xs.length cap (nums .u8 xs) (by rw [nums_length, hsize]; omega) holds a m c (nums .u8 ys) (by rw [nums_length, hsize]; omega) hnews (by omega) (by omega) (by rw [hby]; exact growslice_fits (by omega) (by omega))
      rw [hr] at hr'
      injection hr' with hv hw
      subst hv hw
      intro g' hg'
      simp [Value.ownBlock] at hg'
      subst hg'
      refine ⟨xs ++ ys ++ List.replicate (grownCap w (xs.length + m) cap 5 - (xs.length + m)) 0, ?_⟩
      have := heap_alloc_new w.drew (.cells ((nums .u8 xs).toArray ++ (nums .u8 ys).toArray ++ Builtin.zeroCells (Value.int .u8 0).cells (grownCap w (xs.length + m) cap 5 - (xs.length + m))) 5)
      rw [zero_bytes] at this ⊢
      rw [nums_append, nums_append]
      simpa using this
theorem wpList_append_bytes {w : World} {ops : Array Oper} {rest : List Oper} {o : Oper} {act : Act} {Q : Exit → Act → World → Prop} (hgd : o.guard = none) (s x : Operand) (t : TypeId)
    (ho : o.op = .call { callee := .builtin .append, args := #[s, x], argTypes := #[t, t] }) (base : Nat) (i : TypeInfo) (ht : P.underlying t = some (.slice 5)) (hi : P.info? 5 = some i) (hz : i.zero = some (.int .u8 0)) (hsize : i.size = 1) (hby : i.bytes = 1)
    (v : Value) (xs : List Int) (hs : act.eval s = v) (hown : w.ownsRow base 5 1 v xs.length (nums .u8 xs)) (hU : AllU8 w v)
    (a : Addr) (m c : Nat) (ys : List Int) (hx : act.eval x = .slice (some a) m c) (hl : ys.length = m) (hnews : ∀ j u, (nums .u8 ys)[j]? = some u → w.cell? (a.add j) = some u)
    (hbytes : xs.length + m ≤ 140737488355328) (hbase : base ≤ w.heap.size)
    (h : ∀ v' w', w'.ownsRow base 5 1 v' (xs.length + m) (nums .u8 xs ++ nums .u8 ys) → w.grownBy w' v.ownBlock → AllU8 w' v' → wpList P ops Q rest (act.put o.dst v') w') : wpList P ops Q (o :: rest) act w := by
  refine wpList_plain hgd fun K hK => ?_
  obtain ⟨v', w', hr, h2, h3, h4⟩ := run_append_bytes (P := P) w base t o.type i ht hi hz hsize hby v xs hown hU a m c ys hl hnews hbytes hbase
  unfold Oper.wp execOp
  simp only [ho, resolve, invoke, builtin, Sem.run_bind, Sem.run_pure, Result.andThen_ok, List.map_toArray, List.map_cons, List.map_nil, hs, hx, hr]
  exact hK _ _ (h v' w' h2 h3 h4)
end
set_option maxHeartbeats 4000000 in
set_option maxRecDepth 1000000 in
theorem Clone2_calls (A : Option Addr) (c : Nat) (bs : List Int) (w : World) (hR : BA w A c bs) (h0 : 0 < bs.length) (hl : bs.length ≤ 1000000000) :
    Calls Try.prog 39 #[.slice A bs.length c] w fun e w' => ∃ v, e = .returned v ∧ w'.ownsRow w.heap.size 5 1 v bs.length (nums .u8 bs) ∧ AllU8 w' v ∧ Below w.heap.size w w' := by
  obtain ⟨g, o, rfl, hg, hcell⟩ := hR.2 h0
  obtain ⟨i0, hi, hz0, hz1, hz2⟩ := info_parts infoU8
  generalize hn : bs.length = n at *
  have HN := Lib.hid hn
  have HCELL := Lib.hid hcell
  clear hR hn hcell
  have hU0 : AllU8 (w.alloc (.cells #[] 5)) (.slice (some ⟨w.heap.size, 0, none⟩) 0 0) := fun g hg => by
    simp only [Value.ownBlock, Option.some.injEq] at hg
    subst hg
    exact ⟨[], heap_alloc_new w _⟩
  have q := fun (w : World) (a : Option Addr) (n c n' c' : Nat) => Lib.run_eql_slice_nil (P := Try.prog) w 22 _ a n c n' c' Try.underlying22
  go_enter Try.func39, Try.ntmps39
  have hb1 : Below w.heap.size w (w.alloc (.cells #[] 5)) := (Below.refl _ _).alloc (Nat.le_refl _) _
  have hown : (w.alloc (.cells #[] 5)).ownsRow w.heap.size 5 1 (.slice (some ⟨w.heap.size, 0, none⟩) 0 0) 0 [] := ⟨rfl, .inr ⟨w.heap.size, 0, #[], rfl, Nat.le_refl _, heap_alloc_new w _, Nat.le_refl _, Nat.zero_le _, rfl, rfl⟩⟩
  go_wp2_with (at_builtin; refine wpList_append_bytes rfl _ _ 22 rfl w.heap.size i0 Try.underlying22 hi hz0 hz1 hz2 _ [] rfl hown hU0 ⟨g, o, none⟩ n c bs rfl HN.out (fun j u hj => (hb1.cell (p := (⟨g, o, none⟩ : Addr).add j) (by unfold Addr.add; split <;> exact hg)).trans (HCELL.out j u hj)) (by simp; omega) hb1.size ?_)
  intro v' w2 ho hgr hU2
  have hbz : Below w.heap.size w w2 := hb1.grown hgr hb1.size (fun k hk => (hown.lt k hk).1)
  go_wp2
  go_ret
  exact ⟨_, rfl, ho, hU2, hbz⟩
theorem run_append_no (w : World) (ty : TypeId) (A : Option Addr) (c : Nat) : (Builtin.append_ #[22, 22] ty #[.slice none 0 0, .slice A 0 c]).run Try.prog w = .ok (.slice none 0 0) w := by
  obtain ⟨i0, hi, hz0, hz1, hz2⟩ := info_parts infoU8
  cases A <;> simp [Builtin.append_, run_underlying Try.underlying22, sizeOf, typeInfo, hi, Builtin.lenOf, Builtin.firstCells, storeCells, loadCells, loadCellsFrom]
theorem wpList_append_run {P : Program} {w w' : World} {ops : Array Oper} {rest : List Oper} {o : Oper} {act : Act} {Q : Exit → Act → World → Prop} (hgd : o.guard = none) (s x : Operand) (t : TypeId)
    (ho : o.op = .call { callee := .builtin .append, args := #[s, x], argTypes := #[t, t] }) (vs vx v' : Value) (hs : act.eval s = vs) (hx : act.eval x = vx) (hr : (Builtin.append_ #[t, t] o.type #[vs, vx]).run P w = .ok v' w')
    (h : wpList P ops Q rest (act.put o.dst v') w') : wpList P ops Q (o :: rest) act w := by
  refine wpList_plain hgd fun K hK => ?_
  unfold Oper.wp execOp
  simp only [ho, resolve, invoke, builtin, Sem.run_bind, Sem.run_pure, Result.andThen_ok, List.map_toArray, List.map_cons, List.map_nil, hs, hx, hr]
  exact hK _ _ h
set_option maxHeartbeats 4000000 in
set_option maxRecDepth 1000000 in
theorem Rcopy_calls (A : Option Addr) (c : Nat) (bs : List Int) (w : World) (hR : BA w A c bs) (hl : bs.length ≤ 1000000000) :
    Calls Try.prog 13 #[.slice A bs.length c] w fun e w' => ∃ v, e = .returned v ∧ w'.ownsRow w.heap.size 5 1 v bs.length (nums .u8 bs) ∧ Below w.heap.size w w' := by
  obtain ⟨i0, hi, hz0, hz1, hz2⟩ := info_parts infoU8
  rcases Nat.eq_zero_or_pos bs.length with h0 | h0
  · obtain rfl : bs = [] := List.eq_nil_of_length_eq_zero h0
    clear hR
    rw [List.length_nil]
    go_enter Try.func13, Try.ntmps13
    go_wp2_with (at_builtin; refine wpList_append_run rfl _ _ 22 rfl _ _ _ rfl rfl (run_append_no w _ A c) ?_)
    go_wp2
    go_ret
    exact ⟨_, rfl, ⟨rfl, .inl ⟨rfl, rfl⟩⟩, Below.refl _ _⟩
  · obtain ⟨g, o, rfl, hg, hcell⟩ := hR.2 h0
    generalize hn : bs.length = n at *
    have HN := Lib.hid hn
    have HCELL := Lib.hid hcell
    clear hR hn hcell
    go_enter Try.func13, Try.ntmps13
    have hown : w.ownsRow w.heap.size 5 1 (.slice none 0 0) 0 [] := ⟨rfl, .inl ⟨rfl, rfl⟩⟩
    go_wp2_with (at_builtin; refine wpList_append_own _ rfl _ _ 22 rfl w.heap.size 5 i0 (.int .u8 0) 1 1 Try.underlying22 hi hz0 hz1 hz2 rfl (by decide) _ 0 [] rfl hown ⟨g, o, none⟩ n c (nums .u8 bs) rfl (by rw [nums_len, HN.out, Nat.mul_one]) HCELL.out (nums_one bs) (by unfold maxLen; omega) (by omega) (Nat.le_refl _) ?_)
    intro v' w2 ho hgr _
    have hbz : Below w.heap.size w w2 := (Below.refl _ _).grown hgr (Nat.le_refl _) (fun k hk => (hown.lt k hk).1)
    go_wp2
    go_ret
    exact ⟨_, rfl, ho, hbz⟩
/-- The pieces' bytes: blocks of bytes all through. -/
def U8s (w : World) (base : Nat) (l : List Value) : Prop := ∀ A n c, Value.slice A n c ∈ l → ∃ g ds, A = some ⟨g, 0, none⟩ ∧ base ≤ g ∧ w.heap[g]? = some (.cells (nums .u8 ds).toArray 5 (0, 0)) ∧ ds.length = c ∧ n ≤ c ∧ c ≤ 9223372036854775807
theorem U8s.kept {w w' : World} {base : Nat} {l : List Value} (h : U8s w base l) (hk : ∀ (g : Nat) (cs : Array Value) (fz : Nat × Nat), w.heap[g]? = some (Obj.cells cs 5 fz) → w'.heap[g]? = some (Obj.cells cs 5 fz)) : U8s w' base l := by
  intro A n c hm
  obtain ⟨g, ds, h1, h2, h3, h4⟩ := h A n c hm
  exact ⟨g, ds, h1, h2, hk _ _ _ h3, h4⟩
/-- A row of pieces that is new: from block base on, the bytes too. -/
def NewU (w : World) (base : Nat) (v : Value) (xs : List Ext) : Prop := ∃ l, RowAt w v xs.length l ∧ EC w (fun k => k < base) l.toArray xs ∧ (∀ k, v.ownBlock = some k → base ≤ k) ∧ (∀ u ∈ l, u.oneCell' = true) ∧ U8s w base l
theorem NewU.nil (w : World) (base : Nat) : NewU w base (.slice none 0 0) [] := ⟨[], ⟨rfl, .inl ⟨rfl, rfl⟩⟩, fun j x hj => by simp at hj, fun k hk => (by cases hk), fun u hu => (by cases hu), fun A n c hu => (by cases hu)⟩
theorem NewU.below {w w' : World} {base : Nat} {v : Value} {xs : List Ext} (h : NewU w base v xs) (hb : Below w.heap.size w w') : NewU w' base v xs := by
  obtain ⟨l, h1, h2, h3, h4⟩ := h
  exact ⟨l, h1.below hb, h2.kept fun g cs fz hh => kept_below hb _ _ hh, h3, h4.1, h4.2.kept fun g cs fz hh => kept_below hb _ _ hh⟩
theorem NewU.length {w : World} {base : Nat} {v : Value} {xs : List Ext} (h : NewU w base v xs) : ∃ A c, v = .slice A xs.length c := by
  obtain ⟨l, h1, _⟩ := h
  exact h1.slice
theorem U8s.mono {w : World} {base b0 : Nat} {l : List Value} (h : U8s w base l) (hb : b0 ≤ base) : U8s w b0 l := by
  intro A n c hm
  obtain ⟨g, ds, h1, h2, h3, h4⟩ := h A n c hm
  exact ⟨g, ds, h1, Nat.le_trans hb h2, h3, h4⟩
theorem u8s_of {w : World} {base b0 O n cap : Nat} {l : List Value} (h : w.ownsRow base 5 1 (.slice (some ⟨O, 0, none⟩) n cap) n l) (hU : AllU8 w (.slice (some ⟨O, 0, none⟩) n cap)) (hO : b0 ≤ O) : U8s w b0 [.slice (some ⟨O, 0, none⟩) n cap] := by
  intro A n' c' hm
  rw [List.mem_singleton] at hm
  injection hm with e1 e2 e3
  subst e1 e2 e3
  obtain ⟨ds, hd⟩ := hU O rfl
  refine ⟨O, ds, rfl, hO, hd, ?_⟩
  rcases h.2 with ⟨e, _⟩ | ⟨g, cap', cur, e, _, hg, hnc, hmx, hcs, _⟩
  · cases e
  · injection e with e1 _ e3
    injection e1 with e1
    injection e1 with e1
    subst e1 e3
    rw [hd] at hg
    injection hg with hg
    injection hg with hg _ _
    rw [← hg] at hcs
    unfold maxLen at hmx
    exact ⟨by simpa [nums] using hcs, hnc, by omega⟩
theorem NewU.toX {w : World} {base : Nat} {v : Value} {xs : List Ext} (h : NewU w base v xs) : NewX w base v xs := by
  obtain ⟨l, h1, h2, h3, h4, _⟩ := h
  exact ⟨l, h1, h2, h3, h4⟩
/-- One piece more. -/
theorem NewU.snoc {w : World} {base V cV : Nat} {v : Value} {xs : List Ext} {x : Ext} {A : Option Addr} {c : Nat} {fz : Nat × Nat} (ty : TypeId) (h : NewU w base v xs) (hV : w.heap[V]? = some (.cells #[.int .i64 (x.1 : Int), .slice A x.2.length c] 32 fz)) (hB : BR w A c x.2) (hA : ∀ g o, A = some ⟨g, o, none⟩ → base ≤ g) (hU : U8s w base [.slice A x.2.length c]) (hn : xs.length ≤ 1000000) (hbase : base ≤ w.heap.size) :
    ∃ v' w', (Builtin.append_ #[23, 23] ty #[v, .slice (some ⟨V, 0, none⟩) 1 cV]).run Try.prog w = .ok v' w' ∧ NewU w' base v' (xs ++ [x]) ∧ w.grownBy w' v.ownBlock := by
  obtain ⟨l, h1, h2, h3, h4⟩ := h
  obtain ⟨v', w', r1, r2, r3, r4⟩ := run_appendE w ty v xs.length l V cV _ _ fz h1 hV rfl rfl hn h4.1
  refine ⟨v', w', r1, ⟨l ++ [.int .i64 (x.1 : Int), .slice A x.2.length c], ?_, ?_, fun k hk => ?_, fun u hu => ?_, fun A' n' c' hu => ?_⟩, r3⟩
  · rw [List.length_append]; exact r2
  · have hk := h1.u8_kept r3
    have := (h2.kept hk).replace h1.1 (i := xs.length) (j := xs.length) (Nat.le_refl _) (Nat.le_refl _) x A c (hB.kept hk) (fun g o e hg => by have := hA g o e; omega)
    rw [List.take_of_length_le (by rw [h1.1]; exact Nat.le_refl _), List.drop_eq_nil_of_le (by rw [h1.1]; exact Nat.le_refl _), List.append_nil, List.take_of_length_le (Nat.le_refl _), List.drop_eq_nil_of_le (Nat.le_refl _)] at this
    exact this
  · rcases r4 k hk with h5 | h5
    · exact h3 k h5
    · omega
  · rcases List.mem_append.1 hu with hu | hu
    · exact h4.1 u hu
    · simp only [List.mem_cons, List.not_mem_nil, or_false] at hu
      rcases hu with rfl | rfl <;> rfl
  · have hk := h1.u8_kept r3
    rcases List.mem_append.1 hu with hu | hu
    · exact h4.2.kept hk A' n' c' hu
    · refine hU.kept hk A' n' c' ?_
      simp only [List.mem_cons, List.not_mem_nil, or_false] at hu ⊢
      rcases hu with hu | hu
      · cases hu
      · exact hu
set_option maxHeartbeats 16000000 in
set_option maxRecDepth 1000000 in
theorem Pieces_calls (D lvl size : Nat) (xs os : List Ext) (lA oA : Option Addr) (cl oc : Nat) (w : World) (h : CacheAt w N D lvl size xs os lA cl oA oc) (hok : Ok 0 xs) (hx : ∀ x ∈ xs, en x ≤ size) (hs : size ≤ 65536) :
    Calls Try.prog 23 #[.pointer (some ⟨D, 0, none⟩)] w fun e w' => ∃ v, e = .returned v ∧ NewU w' w.heap.size v xs ∧ Below w.heap.size w w' := by
  have q3 := h.c3
  have hD := h.lt
  have hlen := ok_len' hok hx
  have C1 := Lib.hid (off_on D w h.c0)
  have HD := Lib.hid h
  have HOK := Lib.hid hok
  have HX := Lib.hid hx
  generalize hnn : xs.length = nn at *
  have HL := Lib.hid hnn
  clear h hok hx hnn
  go_enter Try.func23, Try.ntmps23
  go_wp2_with fail
  refine (C1.out).mono ?_
  rintro e w1 ⟨rfl, rfl⟩
  go_wp2_with fail
  go_loopg [3, 13] nn (fun g v3 v13 wr => ∃ i : Nat, v13 = .int .i64 (i : Int) ∧ i + g = nn ∧ NewU wr w1.heap.size v3 (xs.take i) ∧ Below w1.heap.size w1 wr)
  case atStart => exact ⟨0, rfl, Nat.zero_add _, NewU.nil _ _, Below.refl _ _⟩
  case round =>
    obtain ⟨i, rfl, hig, hnx, hbw⟩ := hrel
    have HNX := Lib.hid hnx
    have HBW := Lib.hid hbw
    have HIG := Lib.hid hig
    have htl : (xs.take i).length = i := by rw [List.length_take]; have := HL.out; omega
    obtain ⟨A3, c3, hv3⟩ := hnx.length
    rw [htl] at hv3
    subst hv3
    have HTL := Lib.hid htl
    clear hnx hbw htl
    by_cases hin : i < nn
    · have d3 : decide ((i : Int) < (nn : Int)) = true := by simp; omega
      obtain ⟨x, hxi⟩ : ∃ x, xs[i]? = some x := ⟨_, List.getElem?_eq_getElem (by have := HL.out; omega)⟩
      have hDr := HD.out.below HBW.out
      obtain ⟨L, A, c', rfl, hL, q4, q5, hBR⟩ := hDr.known.piece hxi
      have hx0 := (HOK.out.mem x (List.mem_of_getElem? hxi)).2
      have hxe := HX.out x (List.mem_of_getElem? hxi)
      have ex : en x = x.1 + x.2.length := rfl
      have hxl : x.2.length ≤ 65536 := by omega
      have htk : xs.take (i + 1) = xs.take i ++ [x] := by
        obtain ⟨h1, h2⟩ := List.getElem?_eq_some_iff.1 hxi
        rw [List.take_succ_eq_append_getElem h1, h2]
      have HTK := Lib.hid htk
      have hba : Below wr.heap.size wr (wr.alloc (.cells #[.int .i64 (x.1 : Int), .slice A x.2.length c'] 32)) := (Below.refl _ _).alloc (Nat.le_refl _) _
      have hOa := heap_alloc_new wr (.cells #[.int .i64 (x.1 : Int), .slice A x.2.length c'] 32)
      obtain ⟨wa, hwa⟩ : ∃ wa, wr.alloc (.cells #[.int .i64 (x.1 : Int), .slice A x.2.length c'] 32) = wa := ⟨_, rfl⟩
      rw [hwa] at hba hOa
      have q11 : wa.cell? ⟨wr.heap.size, 0, none⟩ = some (.int .i64 (x.1 : Int)) := by rw [Lib.cell_of_heap hOa]; rfl
      have q12 : wa.cell? ⟨wr.heap.size, 1, none⟩ = some (.slice A x.2.length c') := by rw [Lib.cell_of_heap hOa]; rfl
      have hrw : wr.heap.size < wa.heap.size := (Array.getElem?_eq_some_iff.1 hOa).1
      have hKS : ∀ w', Below wa.heap.size wa w' → w'.cell? ⟨wr.heap.size, 0, none⟩ = some (.int .i64 (x.1 : Int)) ∧ w'.cell? ⟨wr.heap.size, 1, none⟩ = some (.slice A x.2.length c') := fun w' h =>
        ⟨(h.cell (p := ⟨wr.heap.size, 0, none⟩) hrw).trans q11, (h.cell (p := ⟨wr.heap.size, 1, none⟩) hrw).trans q12⟩
      have hBRa := hBR.kept fun g cs fz hh => kept_below hba _ _ hh
      have cC := fun W (hW : Below wa.heap.size wa W) => Clone2_calls A c' x.2 W (hBRa.kept fun g cs fz hh => kept_below hW _ _ hh).ba hx0 (by omega)
      have KS := Lib.hid hKS
      have CC := Lib.hid cC
      have HBA := Lib.hid hba
      clear hKS cC hba hOa hBR hBRa htk hxi hDr ex
      go_wp2_with fail
      clear hwa
      have hS0 := KS.out _ (below_drew1 (Below.refl wa.heap.size wa))
      refine AnyL.start (fun w' => w'.cell? ⟨wr.heap.size, 0, none⟩ = some (.int .i64 (x.1 : Int)) ∧ w'.cell? ⟨wr.heap.size, 1, none⟩ = some (.slice A x.2.length c')) 99 (by kernel_rfl) hS0 (fun hHeld => ?_)
      refine AnyL.take (i := 0) (v := ?vy0) rfl (by kernel_rfl) (by kernel_rfl) (by kernel_rfl) (by kernel_rfl) (fun _ _ _ h => h) (by assumption) (Or.inl ⟨by rfl, ?y0⟩) ?ry0
      case y0 => (intro w hSw; (try dsimp only at hSw); go_simp; try with_reducible rfl)
      try simp only [Act.put, List.setIfInBounds_toArray, List.set_cons_zero, List.set_cons_succ]
      refine AnyL.take (i := 1) (v := ?vy1) rfl (by kernel_rfl) (by kernel_rfl) (by kernel_rfl) (by kernel_rfl) (fun _ _ _ h => h) (by assumption) (Or.inl ⟨by rfl, ?y1⟩) ?ry1
      case y1 => (intro w hSw; (try dsimp only at hSw); go_simp; try with_reducible rfl)
      try simp only [Act.put, List.setIfInBounds_toArray, List.set_cons_zero, List.set_cons_succ]
      refine AnyL.take (i := 2) (v := ?vy2) rfl (by kernel_rfl) (by kernel_rfl) (by kernel_rfl) (by kernel_rfl) (fun _ _ _ h => h) (by assumption) (Or.inl ⟨by rfl, ?y2⟩) ?ry2
      case y2 => (intro w hSw; (try dsimp only at hSw); go_simp; try with_reducible rfl)
      try simp only [Act.put, List.setIfInBounds_toArray, List.set_cons_zero, List.set_cons_succ]
      refine AnyL.take (i := 3) (v := ?vy3) rfl (by kernel_rfl) (by kernel_rfl) (by kernel_rfl) (by kernel_rfl) (fun _ _ _ h => h) (by assumption) (Or.inl ⟨by rfl, ?y3⟩) ?ry3
      case y3 => (intro w hSw; (try dsimp only at hSw); go_simp; try with_reducible rfl)
      try simp only [Act.put, List.setIfInBounds_toArray, List.set_cons_zero, List.set_cons_succ]
      refine AnyL.take (i := 4) (v := ?vy4) rfl (by kernel_rfl) (by kernel_rfl) (by kernel_rfl) (by kernel_rfl) (fun _ _ _ h => h) (by assumption) (Or.inl ⟨by rfl, ?y4⟩) ?ry4
      case y4 => (intro w hSw; (try dsimp only at hSw); go_simp; try with_reducible rfl)
      try simp only [Act.put, List.setIfInBounds_toArray, List.set_cons_zero, List.set_cons_succ]
      refine AnyL.one (i := 5) (by kernel_rfl) rfl (fun K hK => ?_)
      go_simp
      refine (CC.out _ (below_drew1 (Below.refl _ _))).mono ?_
      rintro e w5 ⟨v5, rfl, ho5, hU5, hb5⟩
      obtain ⟨O, cap, rfl, hO, hBO⟩ := BR.of_own ho5 hx0
      have hu5 := u8s_of ho5 hU5 hO
      have hb6 := (below_drew1 (Below.refl wa.heap.size wa)).trans hb5
      refine hK.out _ _ (.inr (KS.out _ hb6)) ?_
      have hHeld := KS.out _ hb6
      clear hK K
      try simp only [Act.put, List.setIfInBounds_toArray, List.set_cons_zero, List.set_cons_succ]
      refine AnyL.take (i := 6) (v := ?vy6) rfl (by kernel_rfl) (by kernel_rfl) (by kernel_rfl) (by kernel_rfl) (fun _ _ _ h => h) (by assumption) (Or.inl ⟨by rfl, ?y6⟩) ?ry6
      case y6 => (intro w hSw; (try dsimp only at hSw); go_simp; try with_reducible rfl)
      try simp only [Act.put, List.setIfInBounds_toArray, List.set_cons_zero, List.set_cons_succ]
      have hbv : Below w5.heap.size w5 (w5.alloc (.cells #[.int .i64 (x.1 : Int), .slice (some ⟨O, 0, none⟩) x.2.length cap] 32)) := (Below.refl _ _).alloc (Nat.le_refl _) _
      have hV := heap_alloc_new w5 (.cells #[.int .i64 (x.1 : Int), .slice (some ⟨O, 0, none⟩) x.2.length cap] 32)
      refine AnyL.one (i := 7) (by kernel_rfl) rfl (fun K hK => ?_)
      go_simp
      obtain ⟨wv, hwv⟩ : ∃ wv, w5.alloc (.cells #[.int .i64 (x.1 : Int), .slice (some ⟨O, 0, none⟩) x.2.length cap] 32) = wv := ⟨_, rfl⟩
      rw [hwv] at hbv hV ⊢
      have hb7 := hb6.trans (hbv.mono hb6.size)
      refine hK.out _ _ (.inr (KS.out _ hb7)) ?_
      have hHeld := KS.out _ hb7
      clear hK K
      try simp only [Act.put, List.setIfInBounds_toArray, List.set_cons_zero, List.set_cons_succ]
      have hbr := HBA.out.trans (hb7.mono HBA.out.size)
      have hbw7 := HBW.out.trans (hbr.mono HBW.out.size)
      obtain ⟨v8, w8, r1, r2, r3⟩ := NewU.snoc (cV := 1) 23 (HNX.out.below hbr) hV (hBO.kept fun g cs fz hh => kept_below hbv _ _ hh) (fun g o e => by
        injection e with e
        injection e with e
        subst e
        have h1 : wa.heap.size ≤ O := hO
        have h2 := HBW.out.size
        omega) ((hu5.kept fun g cs fz hh => kept_below hbv _ _ hh).mono (Nat.le_trans HBW.out.size HBA.out.size)) (by rw [HTL.out]; omega) hbw7.size
      refine AnyL.one (i := 8) (by kernel_rfl) rfl (fun K hK => ?_)
      refine step_append_run _ (by rfl) _ _ 23 23 (by rfl) _ _ (by rfl) (by rfl) v8 w8 r1 ?_
      have hb8 : Below w1.heap.size w1 w8 := hbw7.grown r3 hbw7.size (fun k hk => by
        obtain ⟨_, _, _, h3, _⟩ := HNX.out
        exact h3 k hk)
      have hS8 : w8.cell? ⟨wr.heap.size, 0, none⟩ = some (.int .i64 (x.1 : Int)) ∧ w8.cell? ⟨wr.heap.size, 1, none⟩ = some (.slice A x.2.length c') := by
        have h1 : w8.heap[wr.heap.size]? = wv.heap[wr.heap.size]? := r3.block _ (Nat.lt_of_lt_of_le hrw hb7.size) (fun e => by
          obtain ⟨l, hl, _⟩ := HNX.out
          rcases hl.2 with ⟨h2, _⟩ | ⟨L', c2, sp, h2, hL', _⟩
          · rw [h2] at e; cases e
          · rw [h2] at e
            simp only [Value.ownBlock, Option.some.injEq] at e
            have := (Array.getElem?_eq_some_iff.1 hL').1
            omega)
        exact ⟨(World.cell?_of_block (a := ⟨wr.heap.size, 0, none⟩) h1).trans hHeld.1, (World.cell?_of_block (a := ⟨wr.heap.size, 1, none⟩) h1).trans hHeld.2⟩
      refine hK.out _ _ (.inr hS8) ?_
      clear hHeld
      have hHeld := hS8
      clear hK K
      try simp only [Act.put, List.setIfInBounds_toArray, List.set_cons_zero, List.set_cons_succ]
      refine AnyL.take (i := 9) (v := ?vy9) rfl (by kernel_rfl) (by kernel_rfl) (by kernel_rfl) (by kernel_rfl) (fun _ _ _ h => h) (by assumption) (Or.inl ⟨by rfl, ?y9⟩) ?ry9
      case y9 => (intro w hSw; (try dsimp only at hSw); go_simp; try with_reducible rfl)
      try simp only [Act.put, List.setIfInBounds_toArray, List.set_cons_zero, List.set_cons_succ]
      refine AnyL.done (by kernel_rfl) ?_ _
      have H2 := Lib.hid r2
      have H8 := Lib.hid hb8
      have hgm : gk - 1 < gk := by have := HIG.out; omega
      have hgi : i + 1 + (gk - 1) = nn := by have := HIG.out; omega
      have HGI := Lib.hid hgi
      clear hu5 hU5 hHeld hS8 r1 r2 r3 hb8 hb7 hb6 hb5 ho5 hBO hbr hbw7 hbv hV hwv hO hgi hig
      go_wp2_with fail
      go_roundg (gk - 1)
      case measure => exact hgm
      case rel => exact ⟨i + 1, by rw [Int.natCast_succ], HGI.out, by rw [HTK.out]; exact H2.out, H8.out⟩
    · obtain rfl : i = nn := by omega
      have d3 : decide ((i : Int) < (i : Int)) = false := by simp
      have htl : xs.take i = xs := List.take_of_length_le (by have := HL.out; omega)
      have hfin := HNX.out
      rw [htl] at hfin
      have HF := Lib.hid hfin
      clear hfin htl
      go_wp2_with fail
      go_ret
      exact ⟨_, rfl, HF.out, HBW.out⟩
/-- copy of bytes to the beginning of a block of the call's own. -/
theorem run_copy_bytes (w : World) (t ty : TypeId) (hu : Try.prog.underlying t = some (.slice 5)) (g : Nat) (A : Option Addr) (c : Nat) (xs zs : List Int) (hR : BA w A c xs) (hl : xs.length ≤ zs.length)
    (hg : w.heap[g]? = some (.cells (nums .u8 zs).toArray 5 (0, 0))) :
    ∃ w', (Builtin.copy_ #[t, t] ty #[.slice (some ⟨g, 0, none⟩) zs.length zs.length, .slice A xs.length c]).run Try.prog w = .ok (.int .i64 (xs.length : Int)) w' ∧ w'.heap[g]? = some (.cells (nums .u8 (xs ++ zs.drop xs.length)).toArray 5 (0, 0)) ∧
      ∀ (w0 : World) (B : Nat), Below B w0 w → B ≤ g → Below B w0 w' := by
  have hmin : Nat.min xs.length zs.length = xs.length := Nat.min_eq_left hl
  rcases Nat.eq_zero_or_pos xs.length with h0 | h0
  · have hx : xs = [] := List.eq_nil_of_length_eq_zero h0
    subst hx
    exact ⟨w, run_copy_none (P := Try.prog) w t t ty 5 _ A _ _ 0 c hu sizeU8 hmin, by simpa using hg, fun _ _ h _ => h⟩
  · obtain ⟨b, off, rfl, _, hsrc⟩ := hR.2 h0
    have hr := run_copy_row (P := Try.prog) w t t ty 5 g 0 zs.length zs.length ⟨b, off, none⟩ xs.length c (nums .u8 zs).toArray 5 (nums .u8 xs) hu sizeU8 hg (by rw [nums_len, hmin]) hsrc (by rw [nums_len]; simp [nums]; exact hl) (nums_one xs)
    rw [nums_len] at hr
    refine ⟨_, hr, ?_, fun w0 B hb hB => below_setRow hb hB _⟩
    rw [setRow_heap w g _ _ _ _ hg, nums_append, ← nums_drop]
    simp [nums_len]
/-- The row of Wide, k sevens in. -/
def sevens (xs : List Int) (k : Nat) : List Int := xs ++ (List.replicate k 7 ++ List.replicate (3 - k) 0)
theorem sevens_set (xs : List Int) (k : Nat) (h : k < 3) : (sevens xs k).set (xs.length + k) 7 = sevens xs (k + 1) := by
  unfold sevens
  match k, h with
  | 0, _ => simp
  | 1, _ => simp
  | 2, _ => simp
theorem sevens_len (xs : List Int) (k : Nat) (h : k ≤ 3) : (sevens xs k).length = xs.length + 3 := by
  unfold sevens
  simp
  omega
theorem nums_set (xs : List Int) (j : Nat) (x : Int) : (nums .u8 xs).set j (.int .u8 x) = nums .u8 (xs.set j x) := by simp [nums, List.map_set]
/-- A cell of a block of bytes. -/
theorem cell_bytes {w : World} {g : Nat} {cs : List Int} (h : w.heap[g]? = some (.cells (nums .u8 cs).toArray 5 (0, 0))) (j : Nat) (hj : j < cs.length) : w.cell? ⟨g, j, none⟩ = some (.int .u8 (cs.getD j 0)) := by
  rw [Lib.cell_of_heap h]
  simp [nums, hj]
theorem set_bytes {w : World} {g : Nat} {cs : List Int} (h : w.heap[g]? = some (.cells (nums .u8 cs).toArray 5 (0, 0))) (j : Nat) (x : Int) : (w.setCell ⟨g, j, none⟩ (.int .u8 x)).heap[g]? = some (.cells (nums .u8 (cs.set j x)).toArray 5 (0, 0)) := by
  simp only [World.setCell, Array.getElem?_modify, if_true, h, Option.map_some]
  rw [← nums_set]
  simp

set_option maxHeartbeats 4000000 in
set_option maxRecDepth 1000000 in
theorem Wide_calls (A : Option Addr) (c : Nat) (xs : List Int) (w : World) (hR : BA w A c xs) (hs : xs.length ≤ 140737488355328) :
    Calls Try.prog 28 #[.slice A xs.length c] w fun e w' => e = .returned (.slice (some ⟨w.heap.size, 0, none⟩) xs.length (xs.length + 3)) ∧ w'.heap[w.heap.size]? = some (.cells (nums .u8 (xs ++ [7, 7, 7])).toArray 5 (0, 0)) ∧ Below w.heap.size w w' := by
  have hmk := print_make_int (P := Try.prog) 22 5 (.int .u8 0) 1 Try.underlying22 infoU8 rfl (by decide) ((xs.length : Int) + 3) (by omega) (by omega)
  rw [show ((xs.length : Int) + 3).toNat = xs.length + 3 by omega, made_bytes] at hmk
  have hR' : BA (w.alloc (.cells (nums .u8 (List.replicate (xs.length + 3) 0)).toArray 5)) A c xs := hR.keep ((Below.refl _ _).alloc (Nat.le_refl _) _)
  have hg := heap_alloc_new w (.cells (nums .u8 (List.replicate (xs.length + 3) 0)).toArray 5)
  obtain ⟨n, hn⟩ : ∃ n, xs.length = n := ⟨_, rfl⟩
  rw [hn] at hs hmk hR' hg ⊢
  have HR := Lib.hid hR'
  have HG := Lib.hid hg
  have HN := Lib.hid hn
  clear hR' hg hn hR
  obtain ⟨w1, hcp, hg1, hb1⟩ := run_copy_bytes _ 22 3 Try.underlying22 w.heap.size A c xs (List.replicate (n + 3) 0) HR.out (by rw [List.length_replicate]; have := HN.out; omega) HG.out
  rw [List.length_replicate, HN.out] at hcp
  have hB1 := hb1 w w.heap.size ((Below.refl _ _).alloc (Nat.le_refl _) _) (Nat.le_refl _)
  have hs0 : xs ++ (List.replicate (n + 3) 0).drop xs.length = sevens xs 0 := by
    unfold sevens
    rw [HN.out, List.drop_replicate, show n + 3 - n = 3 by omega]
    rfl
  rw [hs0] at hg1
  have HG1 := Lib.hid hg1
  have HB1 := Lib.hid hB1
  clear hg1 hb1 hB1 hs0
  go_enter Try.func28, Try.ntmps28
  go_wp2
  go_loopw [5] (fun i wr => ∃ k : Nat, k ≤ 3 ∧ i = .int .i64 ((n + k : Nat) : Int) ∧ wr.heap[w.heap.size]? = some (.cells (nums .u8 (sevens xs k)).toArray 5 (0, 0)) ∧ Below w.heap.size w wr) (fun i _ => n + 3 - (RowKit.intOf i).toNat)
  case atStart => exact ⟨0, by omega, rfl, HG1.out, HB1.out⟩
  case round =>
    clear HG1 HB1
    obtain ⟨k, hk, rfl, hg, hB⟩ := hrel
    by_cases h3 : k < 3
    · have c0 := cell_bytes hg (n + k) (by rw [sevens_len _ _ hk, HN.out]; omega)
      have f0 : wr.frozen? ⟨w.heap.size, n + k, none⟩ = false := Lib.frozen_of_heap hg _
      have hst := set_bytes hg (n + k) 7
      have hss := sevens_set xs k h3
      rw [HN.out] at hss
      rw [hss] at hst
      have HS := Lib.hid hst
      have HB := Lib.hid (hB.setCell (p := ⟨w.heap.size, n + k, none⟩) (Nat.le_refl _) (.int .u8 7))
      have d0 : decide (((n + k : Nat) : Int) < ((n + 3 : Nat) : Int)) = true := by simp; omega
      clear hst hss hg hB
      go_wp2
      go_roundw
      case rel => exact ⟨k + 1, by omega, by go_num, HS.out, HB.out⟩
      case measure => simp [RowKit.intOf]; omega
    · obtain rfl : k = 3 := by omega
      have e : sevens xs 3 = xs ++ [7, 7, 7] := rfl
      rw [e] at hg
      have HG := Lib.hid hg
      clear hg
      go_wp2
      go_ret
      exact ⟨rfl, HG.out, hB⟩

set_option maxHeartbeats 4000000 in
set_option maxRecDepth 1000000 in
theorem Spoil_calls (g n cap : Nat) (by_ : Int) (cs : List Int) (w : World) (hc : w.heap[g]? = some (.cells (nums .u8 cs).toArray 5 (0, 0))) (hcl : cs.length = cap) (hn : n ≤ cap) (hm : cap ≤ 9223372036854775807) :
    Calls Try.prog 32 #[.slice (some ⟨g, 0, none⟩) n cap, .int .u8 by_] w fun e w' => e = .returned (.tuple #[]) ∧ w.grownBy w' (some g) ∧ ∃ ds : List Int, w'.heap[g]? = some (.cells (nums .u8 ds).toArray 5 (0, 0)) ∧ ds.length = cap := by
  have HC := Lib.hid hc
  clear hc
  go_enter Try.func32, Try.ntmps32
  go_wp2
  go_loopw [4] (fun i wr => ∃ (k : Nat) (ds : List Int), k ≤ cap ∧ ds.length = cap ∧ i = .int .i64 (k : Int) ∧ wr.heap[g]? = some (.cells (nums .u8 ds).toArray 5 (0, 0)) ∧ w.grownBy wr (some g)) (fun i _ => cap - (RowKit.intOf i).toNat)
  case atStart => exact ⟨0, cs, by omega, hcl, rfl, HC.out, World.grownBy.refl _ _⟩
  case round =>
    clear HC hcl
    obtain ⟨k, ds, hk, hdl, rfl, hg, hb⟩ := hrel
    by_cases h : k < cap
    · have c0 := cell_bytes hg k (by omega)
      have f0 : wr.frozen? ⟨g, k, none⟩ = false := Lib.frozen_of_heap hg _
      have hst := fun x => set_bytes hg k x
      have hbs := fun x => hb.trans (set_grown wr g k x)
      have HS := Lib.hid hst
      have HB := Lib.hid hbs
      have d0 : decide ((k : Int) < (cap : Int)) = true := by simp; omega
      clear hst hbs hg hb
      generalize ds.getD k 0 = z at *
      go_wp2
      refine ⟨⟨k + 1, _, by omega, by rw [List.length_set]; exact hdl, by go_num, HS.out _, HB.out _⟩, ?_⟩
      simp only [RowKit.intOf, Int.toNat_natCast]
      omega
    · have d0 : decide ((k : Int) < (cap : Int)) = false := by simp; omega
      have HB := Lib.hid hb
      have HG := Lib.hid hg
      clear hg hb
      go_wp2
      go_end0
      exact ⟨rfl, HB.out, ds, HG.out, hdl⟩
theorem below_of_grown {w w' : World} {g B : Nat} (h : w.grownBy w' (some g)) (hB : B ≤ g) (hs : B ≤ w.heap.size) : Below B w w' := (Below.refl B w).grown h hs (fun k hk => by injection hk with hk; omega)
theorem Spoil_none (by_ : Int) (w : World) :
    Calls Try.prog 32 #[.slice none 0 0, .int .u8 by_] w fun e w' => e = .returned (.tuple #[]) ∧ w.grownBy w' none := by
  go_enter Try.func32, Try.ntmps32
  go_wp2
  go_loopw [4] (fun i wr => i = .int .i64 0 ∧ w.grownBy wr none) (fun _ _ => 0)
  case atStart => exact ⟨rfl, World.grownBy.refl _ _⟩
  case round =>
    obtain ⟨rfl, hb⟩ := hrel
    go_wp2
    go_end0
    exact ⟨rfl, hb⟩
/-- What a file's answer may be written over: nothing, or a block of bytes. -/
def Ow (w : World) (base : Nat) (A : Option Addr) (n c : Nat) : Prop :=
  (A = none ∧ n = 0 ∧ c = 0) ∨ ∃ g ds, A = some ⟨g, 0, none⟩ ∧ base ≤ g ∧ w.heap[g]? = some (.cells (nums .u8 ds).toArray 5 (0, 0)) ∧ ds.length = c ∧ n ≤ c ∧ c ≤ 9223372036854775807
theorem Ow.keep {w w' : World} {base : Nat} {A : Option Addr} {n c : Nat} (h : Ow w base A n c) (hb : Below w.heap.size w w') : Ow w' base A n c := by
  rcases h with h | ⟨g, ds, h1, h2, h3, h4⟩
  · exact .inl h
  · exact .inr ⟨g, ds, h1, h2, kept_below hb _ _ h3, h4⟩
theorem Spoil_ow {base n c : Nat} {A : Option Addr} (by_ : Int) {w : World} (h : Ow w base A n c) :
    Calls Try.prog 32 #[.slice A n c, .int .u8 by_] w fun e w' => e = .returned (.tuple #[]) ∧ w.grownBy w' (Value.slice A n c).ownBlock ∧ ∀ k, (Value.slice A n c).ownBlock = some k → base ≤ k := by
  rcases h with ⟨rfl, rfl, rfl⟩ | ⟨g, ds, rfl, hg, hh, hl, hn, hm⟩
  · refine (Spoil_none by_ w).mono ?_
    rintro e w' ⟨rfl, hg⟩
    exact ⟨rfl, hg, fun k hk => (by cases hk)⟩
  · refine (Spoil_calls g n c by_ ds w hh hl hn hm).mono ?_
    rintro e w' ⟨rfl, hgr, _⟩
    refine ⟨rfl, hgr, fun k hk => ?_⟩
    simp only [Value.ownBlock, Option.some.injEq] at hk
    omega
end Go.Proofs.Ytbnkiefchbcfgaa.U
/- cache: First. -/
set_option linter.unusedVariables false
set_option linter.unusedSimpArgs false
namespace Go.Proofs.Ytbnkiefchbcfgaa.U
open Go.RowKit Go.Proofs Go.Lib Go.Proofs.YtbnkiefchbcfgaaW.PrintWords
variable {N : Nat → Prop} {w : World} {C lvl size : Nat} {xs os : List Ext} {lA oA : Option Addr} {c oc : Nat}

set_option maxHeartbeats 4000000 in
theorem First_none (h : CacheAt w N C lvl size xs [] lA c oA oc) :
    Calls Try.prog 18 #[.pointer (some ⟨C, 0, none⟩)] w fun e w' => e = .returned (.tuple #[.int .i64 0, .slice none 0 0, .bool false]) ∧ w' = w := by
  have C1 := Lib.hid (off_on C w h.c0)
  have q4 := h.c4
  rw [List.length_nil] at q4
  clear h
  go_enter Try.func18, Try.ntmps18
  go_wp2_with fail
  refine (C1.out).mono ?_
  rintro e w1 ⟨rfl, rfl⟩
  go_wp2
  go_ret3
  exact ⟨rfl, rfl⟩
set_option maxHeartbeats 8000000 in
set_option maxRecDepth 1000000 in
theorem First_calls {x : Ext} (h : CacheAt w N C lvl size xs (x :: os) lA c oA oc) (hx : 0 < x.2.length) (hx2 : x.2.length ≤ 1000000000) :
    Calls Try.prog 18 #[.pointer (some ⟨C, 0, none⟩)] w fun e w' => ∃ v, e = .returned (.tuple #[.int .i64 (x.1 : Int), v, .bool true]) ∧ w'.ownsRow w.heap.size 5 1 v x.2.length (nums .u8 x.2) ∧ AllU8 w' v ∧ Below w.heap.size w w' := by
  have C1 := Lib.hid (off_on C w h.c0)
  have q4 := h.c4
  obtain ⟨O, k, A, c', rfl, hO, p0, p1, hBR⟩ := h.opn.piece (i := 0) (x := x) rfl
  rw [Nat.zero_mul, Nat.add_zero] at p0
  rw [Nat.zero_mul, Nat.zero_add] at p1
  rw [List.length_cons] at q4
  obtain ⟨n, hn⟩ : ∃ n, os.length + 1 = n := ⟨_, rfl⟩
  rw [hn] at q4
  have hCl := h.lt
  have cC := fun W (hW : Below w.heap.size w W) => Clone2_calls A c' x.2 W (hBR.kept fun g cs fz hh => kept_below hW _ _ hh).ba hx hx2
  generalize hm : x.2.length = m at *
  have hKS : ∀ w', Below w.heap.size w w' → w'.cell? ⟨C, 4, none⟩ = some (.slice (some ⟨O, k * 2, none⟩) n oc) ∧ w'.cell? ⟨O, k * 2, none⟩ = some (.int .i64 (x.1 : Int)) ∧ w'.cell? ⟨O, k * 2 + 1, none⟩ = some (.slice A m c') := fun w' h =>
    ⟨(h.cell (p := ⟨C, 4, none⟩) hCl).trans q4, (h.cell (p := ⟨O, k * 2, none⟩) hO).trans p0, (h.cell (p := ⟨O, k * 2 + 1, none⟩) hO).trans p1⟩
  have KS := Lib.hid hKS
  have CC := Lib.hid cC
  have d1 : ((n : Int) == 0) = false := by simp; omega
  have i1 : (0 : Int) < (n : Int) := by omega
  have i2 : 0 < n := by omega
  clear h hBR cC hKS hm hn
  go_enter Try.func18, Try.ntmps18
  go_wp2_with fail
  refine (C1.out).mono ?_
  rintro e w1 ⟨rfl, rfl⟩
  go_wp2_with fail
  have hS0 := KS.out _ (below_drew1 (Below.refl w1.heap.size w1))
  refine AnyL.start (fun w' => w'.cell? ⟨C, 4, none⟩ = some (.slice (some ⟨O, k * 2, none⟩) n oc) ∧ w'.cell? ⟨O, k * 2, none⟩ = some (.int .i64 (x.1 : Int)) ∧ w'.cell? ⟨O, k * 2 + 1, none⟩ = some (.slice A m c')) 99 (by kernel_rfl) hS0 (fun hHeld => ?_)
  refine AnyL.take (i := 0) (v := ?va0) rfl (by kernel_rfl) (by kernel_rfl) (by kernel_rfl) (by kernel_rfl) (fun _ _ _ h => h) (by assumption) (Or.inl ⟨by rfl, ?a0⟩) ?ra0
  case a0 => (intro w hSw; (try dsimp only at hSw); go_simp; try with_reducible rfl)
  try simp only [Act.put, List.setIfInBounds_toArray, List.set_cons_zero, List.set_cons_succ]
  refine AnyL.take (i := 1) (v := ?va1) rfl (by kernel_rfl) (by kernel_rfl) (by kernel_rfl) (by kernel_rfl) (fun _ _ _ h => h) (by assumption) (Or.inl ⟨by rfl, ?a1⟩) ?ra1
  case a1 => (intro w hSw; (try dsimp only at hSw); go_simp; try with_reducible rfl)
  try simp only [Act.put, List.setIfInBounds_toArray, List.set_cons_zero, List.set_cons_succ]
  refine AnyL.take (i := 2) (v := ?va2) rfl (by kernel_rfl) (by kernel_rfl) (by kernel_rfl) (by kernel_rfl) (fun _ _ _ h => h) (by assumption) (Or.inl ⟨by rfl, ?a2⟩) ?ra2
  case a2 => (intro w hSw; (try dsimp only at hSw); go_simp; try with_reducible rfl)
  try simp only [Act.put, List.setIfInBounds_toArray, List.set_cons_zero, List.set_cons_succ]
  refine AnyL.take (i := 3) (v := ?va3) rfl (by kernel_rfl) (by kernel_rfl) (by kernel_rfl) (by kernel_rfl) (fun _ _ _ h => h) (by assumption) (Or.inl ⟨by rfl, ?a3⟩) ?ra3
  case a3 => (intro w hSw; (try dsimp only at hSw); go_simp; try with_reducible rfl)
  try simp only [Act.put, List.setIfInBounds_toArray, List.set_cons_zero, List.set_cons_succ]
  refine AnyL.take (i := 4) (v := ?va4) rfl (by kernel_rfl) (by kernel_rfl) (by kernel_rfl) (by kernel_rfl) (fun _ _ _ h => h) (by assumption) (Or.inl ⟨by rfl, ?a4⟩) ?ra4
  case a4 => (intro w hSw; (try dsimp only at hSw); go_simp; try with_reducible rfl)
  try simp only [Act.put, List.setIfInBounds_toArray, List.set_cons_zero, List.set_cons_succ]
  refine AnyL.take (i := 5) (v := ?va5) rfl (by kernel_rfl) (by kernel_rfl) (by kernel_rfl) (by kernel_rfl) (fun _ _ _ h => h) (by assumption) (Or.inl ⟨by rfl, ?a5⟩) ?ra5
  case a5 => (intro w hSw; (try dsimp only at hSw); go_simp; try with_reducible rfl)
  try simp only [Act.put, List.setIfInBounds_toArray, List.set_cons_zero, List.set_cons_succ]
  refine AnyL.take (i := 6) (v := ?va6) rfl (by kernel_rfl) (by kernel_rfl) (by kernel_rfl) (by kernel_rfl) (fun _ _ _ h => h) (by assumption) (Or.inl ⟨by rfl, ?a6⟩) ?ra6
  case a6 => (intro w hSw; (try dsimp only at hSw); go_simp; try with_reducible rfl)
  try simp only [Act.put, List.setIfInBounds_toArray, List.set_cons_zero, List.set_cons_succ]
  refine AnyL.take (i := 7) (v := ?va7) rfl (by kernel_rfl) (by kernel_rfl) (by kernel_rfl) (by kernel_rfl) (fun _ _ _ h => h) (by assumption) (Or.inl ⟨by rfl, ?a7⟩) ?ra7
  case a7 => (intro w hSw; (try dsimp only at hSw); go_simp; try with_reducible rfl)
  try simp only [Act.put, List.setIfInBounds_toArray, List.set_cons_zero, List.set_cons_succ]
  refine AnyL.take (i := 8) (v := ?va8) rfl (by kernel_rfl) (by kernel_rfl) (by kernel_rfl) (by kernel_rfl) (fun _ _ _ h => h) (by assumption) (Or.inl ⟨by rfl, ?a8⟩) ?ra8
  case a8 => (intro w hSw; (try dsimp only at hSw); go_simp; try with_reducible rfl)
  try simp only [Act.put, List.setIfInBounds_toArray, List.set_cons_zero, List.set_cons_succ]
  refine AnyL.take (i := 9) (v := ?va9) rfl (by kernel_rfl) (by kernel_rfl) (by kernel_rfl) (by kernel_rfl) (fun _ _ _ h => h) (by assumption) (Or.inl ⟨by rfl, ?a9⟩) ?ra9
  case a9 => (intro w hSw; (try dsimp only at hSw); go_simp; try with_reducible rfl)
  try simp only [Act.put, List.setIfInBounds_toArray, List.set_cons_zero, List.set_cons_succ]
  refine AnyL.take (i := 10) (v := ?va10) rfl (by kernel_rfl) (by kernel_rfl) (by kernel_rfl) (by kernel_rfl) (fun _ _ _ h => h) (by assumption) (Or.inl ⟨by rfl, ?a10⟩) ?ra10
  case a10 => (intro w hSw; (try dsimp only at hSw); go_simp; try with_reducible rfl)
  try simp only [Act.put, List.setIfInBounds_toArray, List.set_cons_zero, List.set_cons_succ]
  refine AnyL.take (i := 11) (v := ?va11) rfl (by kernel_rfl) (by kernel_rfl) (by kernel_rfl) (by kernel_rfl) (fun _ _ _ h => h) (by assumption) (Or.inl ⟨by rfl, ?a11⟩) ?ra11
  case a11 => (intro w hSw; (try dsimp only at hSw); go_simp; try with_reducible rfl)
  try simp only [Act.put, List.setIfInBounds_toArray, List.set_cons_zero, List.set_cons_succ]
  refine AnyL.take (i := 12) (v := ?va12) rfl (by kernel_rfl) (by kernel_rfl) (by kernel_rfl) (by kernel_rfl) (fun _ _ _ h => h) (by assumption) (Or.inl ⟨by rfl, ?a12⟩) ?ra12
  case a12 => (intro w hSw; (try dsimp only at hSw); go_simp; try with_reducible rfl)
  try simp only [Act.put, List.setIfInBounds_toArray, List.set_cons_zero, List.set_cons_succ]
  refine AnyL.take (i := 13) (v := ?va13) rfl (by kernel_rfl) (by kernel_rfl) (by kernel_rfl) (by kernel_rfl) (fun _ _ _ h => h) (by assumption) (Or.inl ⟨by rfl, ?a13⟩) ?ra13
  case a13 => (intro w hSw; (try dsimp only at hSw); go_simp; try with_reducible rfl)
  try simp only [Act.put, List.setIfInBounds_toArray, List.set_cons_zero, List.set_cons_succ]
  refine AnyL.one (i := 14) (by kernel_rfl) rfl (fun K hK => ?_)
  go_simp
  refine (CC.out _ (below_drew1 (Below.refl _ _))).mono ?_
  rintro e w5 ⟨v5, rfl, ho5, hu5, hb5⟩
  have hb6 := (below_drew1 (Below.refl w1.heap.size w1)).trans hb5
  refine hK.out _ _ (.inr (KS.out _ hb6)) ?_
  clear hHeld
  have hHeld := KS.out _ hb6
  clear hK K
  try simp only [Act.put, List.setIfInBounds_toArray, List.set_cons_zero, List.set_cons_succ]
  refine AnyL.take (i := 15) (v := ?vb15) rfl (by kernel_rfl) (by kernel_rfl) (by kernel_rfl) (by kernel_rfl) (fun _ _ _ h => h) (by assumption) (Or.inl ⟨by rfl, ?b15⟩) ?rb15
  case b15 => (intro w hSw; (try dsimp only at hSw); go_simp; try with_reducible rfl)
  try simp only [Act.put, List.setIfInBounds_toArray, List.set_cons_zero, List.set_cons_succ]
  refine AnyL.take (i := 16) (v := ?vb16) rfl (by kernel_rfl) (by kernel_rfl) (by kernel_rfl) (by kernel_rfl) (fun _ _ _ h => h) (by assumption) (Or.inl ⟨by rfl, ?b16⟩) ?rb16
  case b16 => (intro w hSw; (try dsimp only at hSw); go_simp; try with_reducible rfl)
  try simp only [Act.put, List.setIfInBounds_toArray, List.set_cons_zero, List.set_cons_succ]
  refine AnyL.take (i := 17) (v := ?vb17) rfl (by kernel_rfl) (by kernel_rfl) (by kernel_rfl) (by kernel_rfl) (fun _ _ _ h => h) (by assumption) (Or.inl ⟨by rfl, ?b17⟩) ?rb17
  case b17 => (intro w hSw; (try dsimp only at hSw); go_simp; try with_reducible rfl)
  try simp only [Act.put, List.setIfInBounds_toArray, List.set_cons_zero, List.set_cons_succ]
  refine AnyL.done (by kernel_rfl) ?_ _
  have HO5 := Lib.hid ho5
  have HU5 := Lib.hid hu5
  have HB6 := Lib.hid hb6
  clear hHeld hb5 hb6 ho5 hu5 KS CC hS0
  go_wp2
  go_ret3
  exact ⟨_, rfl, HO5.out, HU5.out, HB6.out⟩
end Go.Proofs.Ytbnkiefchbcfgaa.U
/- cache: append at a row of pieces that begins anywhere within its block. -/
set_option linter.unusedVariables false
set_option linter.unusedSimpArgs false
namespace Go.Proofs.Ytbnkiefchbcfgaa.U
open Go.RowKit Go.Proofs Go.Lib Go.Proofs.YtbnkiefchbcfgaaW.PrintWords
variable {N : Nat → Prop}

theorem run_append_roomO (w : World) (ty : TypeId) (g off sLen sCap : Nat) (cur : Array Value) (hg : w.heap[g]? = some (.cells cur 32 (0, 0)))
    (a : Addr) (c : Nat) (u v : Value) (hnews : ∀ j z, [u, v][j]? = some z → w.cell? (a.add j) = some z) (hu : u.oneCell' = true) (hv : v.oneCell' = true)
    (hroom : sLen + 1 ≤ sCap) (hfit : off + sLen * 2 + 2 ≤ cur.size) :
    (Builtin.append_ #[23, 23] ty #[.slice (some ⟨g, off, none⟩) sLen sCap, .slice (some a) 1 c]).run Try.prog w =
      .ok (.slice (some ⟨g, off, none⟩) (sLen + 1) sCap) (w.setRow g (cur.toList.take (off + sLen * 2) ++ [u, v] ++ cur.toList.drop (off + sLen * 2 + 2)).toArray) := by
  obtain ⟨i0, hi, hz0, hz1, hz2⟩ := info_parts infoE
  have h1 : ∀ z ∈ [u, v], z.oneCell' = true := by
    intro z hz
    simp only [List.mem_cons, List.not_mem_nil, or_false] at hz
    rcases hz with rfl | rfl
    · exact hu
    · exact hv
  have hf := run_firstCells_some (P := Try.prog) w i0.size 1 a 1 c [u, v] (by rw [hz1]; rfl) hnews
  rw [hz1] at hf
  have hst := run_storeCells_at Try.prog g (off + sLen * 2) 32 [u, v] 0 cur w hg (by simpa using hfit) h1
  simp only [Nat.add_zero] at hst
  simp [Builtin.append_, run_underlying Try.underlying23, sizeOf, typeInfo, hi, Builtin.lenOf, hroom, hf, Addr.add_lit, hz1, hst]
theorem EC.snoc {w : World} {l : List Value} {xs : List Ext} (h : EC w N l.toArray xs) (hl : l.length = xs.length * 2) (x : Ext) (A : Option Addr) (c : Nat) (hB : BR w A c x.2) (hA : ∀ g o, A = some ⟨g, o, none⟩ → ¬ N g) :
    EC w N (l ++ [Value.int .i64 (x.1 : Int), Value.slice A x.2.length c]).toArray (xs ++ [x]) := by
  have := h.replace hl (i := xs.length) (j := xs.length) (Nat.le_refl _) (Nat.le_refl _) x A c hB hA
  rw [List.take_of_length_le (by omega), List.drop_eq_nil_of_le (by omega), List.append_nil, List.take_of_length_le (Nat.le_refl _), List.drop_eq_nil_of_le (Nat.le_refl _)] at this
  exact this
theorem run_appendO (w : World) (ty : TypeId) {oA : Option Addr} {oc : Nat} {os : List Ext} (h : OpenAt w N oA oc os) (V cV : Nat) (x : Ext) (A : Option Addr) (c : Nat) (fz : Nat × Nat)
    (hV : w.heap[V]? = some (.cells #[.int .i64 (x.1 : Int), .slice A x.2.length c] 32 fz)) (hB : BR w A c x.2) (hA : ∀ g o, A = some ⟨g, o, none⟩ → ¬ N g) (hn : os.length ≤ 1000000) :
    ∃ oA' oc' w', (Builtin.append_ #[23, 23] ty #[.slice oA os.length oc, .slice (some ⟨V, 0, none⟩) 1 cV]).run Try.prog w = .ok (.slice oA' (os.length + 1) oc') w' ∧ OpenAt w' N oA' oc' (os ++ [x]) ∧ w.grownBy w' (Value.slice oA os.length oc).ownBlock ∧ SameL w oA oA' := by
  obtain ⟨i0, hi, hz0, hz1, hz2⟩ := info_parts infoE
  have hcell : ∀ j u, [Value.int .i64 (x.1 : Int), .slice A x.2.length c][j]? = some u → w.cell? ((⟨V, 0, none⟩ : Addr).add j) = some u := by
    intro j u hj
    rw [Addr.add_lit, Lib.cell_of_heap hV, Nat.zero_add]
    simpa using hj
  have hsrc : Src Try.prog i0.size 23 (.slice (some ⟨V, 0, none⟩) 1 cV) 1 [Value.int .i64 (x.1 : Int), .slice A x.2.length c] w := by
    rw [hz1]
    refine Src.ofSlice w Try.underlying23 ⟨V, 0, none⟩ 1 cV _ rfl hcell ?_
    intro u hu
    simp only [List.mem_cons, List.not_mem_nil, or_false] at hu
    rcases hu with rfl | rfl <;> rfl
  have hgrow : ∀ (l : List Value), l.length = os.length * 2 → EC w N l.toArray os → oc < os.length + 1 → (Builtin.firstCells i0.size os.length (.slice oA os.length oc)).run Try.prog w.drew = .ok l.toArray w.drew →
      ∃ oA' oc' w', (Builtin.append_ #[23, 23] ty #[.slice oA os.length oc, .slice (some ⟨V, 0, none⟩) 1 cV]).run Try.prog w = .ok (.slice oA' (os.length + 1) oc') w' ∧ OpenAt w' N oA' oc' (os ++ [x]) ∧ w.grownBy w' (Value.slice oA os.length oc).ownBlock ∧ SameL w oA oA' := by
    intro l hl hec hc hold
    have hr := run_append_grow_src w 23 23 ty 32 i0 _ Try.underlying23 hi hz0 oA os.length oc l hold _ 1 _ hsrc (by omega) (by omega) (by rw [hz2]; exact growslice_fits hc (by omega))
    obtain ⟨zs, hza, hzl⟩ : ∃ zs : List Value, zs.toArray = Builtin.zeroCells (Value.agg #[.int .i64 0, .slice none 0 0]).cells (grownCap w (os.length + 1) oc 32 - (os.length + 1)) ∧ zs.length = (grownCap w (os.length + 1) oc 32 - (os.length + 1)) * 2 :=
      ⟨_, Array.toArray_toList, by rw [Array.length_toList, zeroCellsE]⟩
    rw [← hza] at hr
    have hge := grownCap_ge w (os.length + 1) oc 32
    have hnew := heap_alloc_new w.drew (.cells ((l ++ [Value.int .i64 (x.1 : Int), .slice A x.2.length c]).toArray ++ zs.toArray) 32)
    rw [show (l ++ [Value.int .i64 (x.1 : Int), .slice A x.2.length c]).toArray ++ zs.toArray = (l ++ [Value.int .i64 (x.1 : Int), .slice A x.2.length c] ++ zs).toArray by apply Array.ext'; simp] at hnew hr
    have hbl : Below w.heap.size w (w.drew.alloc (.cells (l ++ [Value.int .i64 (x.1 : Int), .slice A x.2.length c] ++ zs).toArray 32)) := (below_drew1 (Below.refl _ _)).alloc (Nat.le_refl _) _
    have hk : ∀ (g : Nat) (cs : Array Value) (fz : Nat × Nat), w.heap[g]? = some (Obj.cells cs 5 fz) → (w.drew.alloc (.cells (l ++ [Value.int .i64 (x.1 : Int), .slice A x.2.length c] ++ zs).toArray 32)).heap[g]? = some (Obj.cells cs 5 fz) := fun g cs fz hh => kept_below hbl _ _ hh
    have hlen : (l ++ [Value.int .i64 (x.1 : Int), .slice A x.2.length c]).length = (os ++ [x]).length * 2 := by
      rw [List.length_append, List.length_append, hl]
      simp only [List.length_cons, List.length_nil]
      omega
    refine ⟨_, _, _, hr, .inr ⟨w.heap.size, 0, _, rfl, hnew, ?_, ?_, ?_⟩, ⟨rfl, rfl, rfl, by simp, fun k hk _ => heap_alloc_old w.drew _ hk⟩, fun L o e => ?_⟩
    · rw [List.size_toArray, List.length_append, hlen, hzl, List.length_append, List.length_singleton]
      omega
    · rw [List.length_append, List.length_singleton]
      omega
    · rw [Nat.zero_mul, List.drop_zero]
      exact ((hec.kept hk).snoc hl x A c (hB.kept hk) hA).more hlen
    · injection e with e
      injection e with e
      exact .inr (by omega)
  rcases h with ⟨rfl, rfl, rfl⟩ | ⟨O, k, cs, rfl, hO, hs, hc, he⟩
  · exact hgrow [] rfl (fun j x hj => by simp at hj) (by simp) (run_firstCells_none w.drew i0.size 0 0 0)
  · have hsl : (cs.toList.drop (k * 2)).toArray.size = cs.size - k * 2 := by rw [List.size_toArray, List.length_drop, Array.length_toList]
    obtain ⟨l, sp, e, hl, h1, h2⟩ := he.row (by rw [hsl]; omega)
    have e' : cs.toList.drop (k * 2) = l ++ sp := by
      have := congrArg Array.toList e
      simpa using this
    have hsp : l.length + sp.length = cs.size - k * 2 := by rw [← List.length_append, ← e', List.length_drop, Array.length_toList]
    by_cases hroom : os.length + 1 ≤ oc
    · have hr := run_append_roomO w ty O (k * 2) os.length oc cs hO ⟨V, 0, none⟩ cV _ _ hcell rfl rfl hroom (by omega)
      have hfr := setRow_frame w O (cs.toList.take (k * 2 + os.length * 2) ++ [Value.int .i64 (x.1 : Int), .slice A x.2.length c] ++ cs.toList.drop (k * 2 + os.length * 2 + 2)).toArray
      have hk : ∀ (g : Nat) (cs' : Array Value) (fz : Nat × Nat), w.heap[g]? = some (Obj.cells cs' 5 fz) → (w.setRow O (cs.toList.take (k * 2 + os.length * 2) ++ [Value.int .i64 (x.1 : Int), .slice A x.2.length c] ++ cs.toList.drop (k * 2 + os.length * 2 + 2)).toArray).heap[g]? = some (Obj.cells cs' 5 fz) := fun g cs' fz hh =>
        (setRow_other w O g _ (ne_block hh hO (by decide))).trans hh
      have hlen : (l ++ [Value.int .i64 (x.1 : Int), .slice A x.2.length c]).length = (os ++ [x]).length * 2 := by
        rw [List.length_append, List.length_append, hl]
        simp only [List.length_cons, List.length_nil]
        omega
      have hdr : (cs.toList.take (k * 2 + os.length * 2) ++ [Value.int .i64 (x.1 : Int), .slice A x.2.length c] ++ cs.toList.drop (k * 2 + os.length * 2 + 2)).drop (k * 2) = l ++ [Value.int .i64 (x.1 : Int), .slice A x.2.length c] ++ sp.drop 2 := by
        have e1 : cs.toList.take (k * 2 + os.length * 2) = cs.toList.take (k * 2) ++ l := by
          rw [List.take_add, e', ← hl, List.take_left']
          rfl
        have e2 : cs.toList.drop (k * 2 + os.length * 2 + 2) = sp.drop 2 := by
          rw [← List.drop_drop, ← List.drop_drop, e', ← hl, List.drop_left']
          rfl
        have e3 : (cs.toList.take (k * 2)).length = k * 2 := by rw [List.length_take, Array.length_toList]; omega
        rw [e1, e2, List.append_assoc, List.append_assoc, List.drop_left' e3, List.append_assoc]
      refine ⟨_, _, _, hr, .inr ⟨O, k, _, rfl, setRow_heap w O _ _ _ _ hO, ?_, ?_, ?_⟩, hfr, SameL.refl _ _⟩
      · rw [List.size_toArray]
        have := congrArg List.length hdr
        simp only [List.length_append, List.length_cons, List.length_nil, List.length_drop, List.length_take, Array.length_toList] at this ⊢
        omega
      · rw [List.length_append, List.length_singleton]
        omega
      · rw [List.toList_toArray, hdr]
        exact ((h1.kept hk).snoc hl x A c (hB.kept hk) hA).more hlen
    · refine hgrow l hl h1 (by omega) ?_
      rw [hz1]
      refine run_firstCells_some w.drew 2 os.length _ os.length oc l hl fun j u hj => ?_
      rw [Addr.add_lit]
      have eO : w.drew.heap[O]? = some (.cells cs 32 (0, 0)) := hO
      rw [Lib.cell_of_heap eO]
      have hj2 : (cs.toList.drop (k * 2))[j]? = some u := by
        rw [e', List.getElem?_append_left (List.getElem?_eq_some_iff.1 hj).1]
        exact hj
      rw [List.getElem?_drop, Array.getElem?_toList] at hj2
      exact hj2
end Go.Proofs.Ytbnkiefchbcfgaa.U
/- cache, in plain words: whether bytes are known, and which; what is filled. -/
set_option linter.unusedVariables false
set_option linter.unusedSimpArgs false
namespace Go.Proofs.Ytbnkiefchbcfgaa.U

/-- Are the bytes from a place on known? -/
def knB (xs : List Ext) (p m : Nat) : Bool := (List.range m).all fun j => (look xs (p + j)).isSome
theorem knB_iff (xs : List Ext) (p m : Nat) : knB xs p m = true ↔ ∀ j, j < m → look xs (p + j) ≠ none := by
  unfold knB
  rw [List.all_eq_true]
  constructor
  · intro h j hj
    have := h j (List.mem_range.2 hj)
    intro e
    rw [e] at this
    cases this
  · intro h j hj
    exact Option.isSome_iff_ne_none.2 (h j (List.mem_range.1 hj))
theorem kn_spec (p m : Nat) (hm : 0 < m) : ∀ (xs : List Ext) (k : Nat), Ok k xs → (knB xs p m = true ↔ ∃ x, xs[frN (p + 1) xs]? = some x ∧ x.1 ≤ p ∧ p + m ≤ en x) := by
  intro xs
  induction xs with
  | nil =>
    intro k _
    rw [knB_iff]
    constructor
    · intro h
      exact absurd rfl (h 0 hm)
    · rintro ⟨x, hx, _⟩
      simp at hx
  | cons x t ih =>
    intro k h
    have ex : en x = x.1 + x.2.length := rfl
    have h0 := h.2.1
    rw [frN]
    by_cases hx : en x < p + 1
    · rw [if_pos hx, List.getElem?_cons_succ, ← ih _ h.2.2, knB_iff, knB_iff]
      constructor
      · intro h j hj
        have := h j hj
        rwa [look_out (by omega)] at this
      · intro h j hj
        rw [look_out (by omega)]
        exact h j hj
    · rw [if_neg hx, List.getElem?_cons_zero, knB_iff]
      obtain ⟨a1, a2, a3, _⟩ := look_head h
      constructor
      · intro hh
        refine ⟨x, rfl, ?_, ?_⟩
        · rcases Nat.lt_or_ge p x.1 with h1 | h1
          · exact absurd (a1 (p + 0) h1) (hh 0 hm)
          · exact h1
        · rcases Nat.lt_or_ge (en x) (p + m) with h1 | h1
          · have := hh (en x - p) (by omega)
            rw [show p + (en x - p) = en x by omega] at this
            exact absurd a3 this
          · exact h1
      · rintro ⟨y, e, h1, h2⟩ j hj
        injection e with e
        subst e
        exact a2 (p + j) (by omega) (by omega)
theorem look_mem : ∀ (xs : List Ext) (k : Nat), Ok k xs → ∀ x ∈ xs, ∀ i, x.1 ≤ i → i < en x → look xs i = x.2[i - x.1]? := by
  intro xs
  induction xs with
  | nil => intro k _ x hx; cases hx
  | cons y t ih =>
    intro k h x hx i h1 h2
    rcases List.mem_cons.1 hx with rfl | hx
    · exact look_in h1 h2
    · have := h.2.2.mem x hx
      have ey : en y = y.1 + y.2.length := rfl
      rw [look_out (by omega)]
      exact ih _ h.2.2 x hx i h1 h2
theorem bytesAt_of {xs : List Ext} (h : Ok 0 xs) {x : Ext} (hx : x ∈ xs) (p m : Nat) (h1 : x.1 ≤ p) (h2 : p + m ≤ en x) : bytesAt xs p m = (x.2.drop (p - x.1)).take m := by
  have ex : en x = x.1 + x.2.length := rfl
  apply List.ext_getElem?
  intro j
  unfold bytesAt
  rw [List.getElem?_map, List.getElem?_take, List.getElem?_drop]
  by_cases hj : j < m
  · rw [if_pos hj, List.getElem?_range hj, Option.map_some, look_mem xs 0 h x hx (p + j) (by omega) (by omega)]
    rw [show p - x.1 + j = p + j - x.1 by omega, List.getElem?_eq_getElem (by omega)]
    rfl
  · rw [if_neg hj, List.getElem?_eq_none (by simp; omega)]
    rfl
theorem bytesAt_length (xs : List Ext) (p n : Nat) : (bytesAt xs p n).length = n := by simp [bytesAt]
/-- Is a part read? Its bytes. -/
def rdOk (lvl size : Nat) (xs : List Ext) (p n : Int) : Bool := decide (0 < lvl ∧ 0 < n ∧ 0 ≤ p ∧ p ≤ size ∧ n ≤ size - p) && knB xs p.toNat n.toNat
def rdB (lvl size : Nat) (xs : List Ext) (p n : Int) : List Int := if rdOk lvl size xs p n then bytesAt xs p.toNat n.toNat else []
/-- Is a write kept? -/
def wrOk (lvl size : Nat) (p : Int) (n : Nat) : Bool := decide (2 ≤ lvl ∧ 0 < n ∧ 0 ≤ p ∧ p ≤ size ∧ (n : Int) ≤ size - p)
/-- Laid, if there are any; laid one behind another. -/
def wr0 (p : Nat) (bs : List Int) (xs : List Ext) : List Ext := if bs.length = 0 then xs else wr p bs xs
def lays (os : List Ext) (xs : List Ext) : List Ext := os.foldl (fun xs x => wr x.1 x.2 xs) xs
theorem lays_snoc (os : List Ext) (x : Ext) (xs : List Ext) : lays (os ++ [x]) xs = wr x.1 x.2 (lays os xs) := by
  unfold lays
  rw [List.foldl_append]
  rfl
/-- Writes that stand within a size. -/
def Within (size : Nat) (os : List Ext) : Prop := ∀ x ∈ os, 0 < x.2.length ∧ en x ≤ size
structure Fit (size : Nat) (xs : List Ext) : Prop where
  ok : Ok 0 xs
  top : ∀ x ∈ xs, en x ≤ size
theorem Fit.wr {size p : Nat} {b : List Int} {xs : List Ext} (h : Fit size xs) (hb : 0 < b.length) (hp : p + b.length ≤ size) : Fit size (wr p b xs) :=
  ⟨(wr_spec p b hb xs 0 h.ok (Nat.zero_le _)).1, fun x hx => by have := wr_end hb h.ok h.top x hx; omega⟩
theorem Fit.wr0 {size p : Nat} {b : List Int} {xs : List Ext} (h : Fit size xs) (hp : p + b.length ≤ size) : Fit size (wr0 p b xs) := by
  unfold U.wr0
  split
  · exact h
  · exact h.wr (by omega) hp
theorem Fit.lays {size : Nat} : ∀ {os xs : List Ext}, Fit size xs → Within size os → Fit size (lays os xs) := by
  intro os
  induction os with
  | nil => intro xs h _; exact h
  | cons x t ih =>
    intro xs h hw
    exact ih (h.wr (hw x List.mem_cons_self).1 (hw x List.mem_cons_self).2) (fun y hy => hw y (List.mem_cons_of_mem _ hy))
theorem Within.take {size : Nat} {os : List Ext} (h : Within size os) (k : Nat) : Within size (os.take k) := fun x hx => h x (List.mem_of_mem_take hx)
end Go.Proofs.Ytbnkiefchbcfgaa.U
