/- The document's cache: blank, New, Settle, Down, Forget, First. -/
import Derived.Test.YtbnkiefchbcfgaaCref1
set_option linter.unusedVariables false
set_option linter.unusedSimpArgs false
namespace Go.Proofs.Ytbnkiefchbcfgaa.U
open Go.RowKit Go.Proofs Go.Lib Go.Proofs.YtbnkiefchbcfgaaW.PrintWords
variable {w w1 w2 : World} {N : Nat → Prop} {base R lvl : Nat} {B : List Int} {Z : List Bool} {os : List Ext} {vB vZ : Value} {rA : Option Addr} {rc : Nat}

theorem RefC.set0 (h : RefC w N base R lvl B Z os vB vZ rA rc) (l : Nat) : RefC (w.setCell ⟨R, 0, none⟩ (.int .u8 (l : Int))) N base R l B Z os vB vZ rA rc := by
  refine ⟨by rw [set_cell h.head]; rfl, own_stay h.rb fun k hk => set_other _ (fun e => ?_), own_stay h.rz fun k hk => set_other _ (fun e => ?_), h.opn.kept (fun O o e => ?_) (fun g cs fz hh => ?_), h.bL⟩
  · subst e
    exact own_ne_block h.rb h.head (by decide) hk
  · subst e
    exact own_ne_block h.rz h.head (by decide) hk
  · obtain ⟨_, cs, hO⟩ := h.opn.at_ e
    exact set_other _ (ne_block hO h.head (by decide))
  · rw [set_other _ (ne_block hh h.head (by decide))]
    exact hh
theorem RefC.setB {B' : List Int} {v' : Value} (h : RefC w N base R lvl B Z os vB vZ rA rc) (ho : ∀ x ∈ os, 0 < x.2.length) (hb : Below w.heap.size w w1) (hr : w1.ownsRow base 5 1 v' B'.length (nums .u8 B')) (hn : ∀ k, v'.ownBlock = some k → w.heap.size ≤ k) :
    RefC (w1.setCell ⟨R, 1, none⟩ v') N base R lvl B' Z os v' vZ rA rc := by
  have h1 := h.below hb
  refine ⟨by rw [set_cell h1.head]; rfl, own_stay hr fun k hk => set_other _ (fun e => ?_), own_stay h1.rz fun k hk => set_other _ (fun e => ?_), (((h.opn.also (N' := fun k => v'.ownBlock = some k ∨ N k) ho (fun k hk => ?_)).below hb)).kept (fun O o e => ?_) (fun g cs fz hh => ?_), h.bL⟩
  · subst e
    exact own_ne_block hr h1.head (by decide) hk
  · subst e
    exact own_ne_block h1.rz h1.head (by decide) hk
  · rcases hk with hk | hk
    · exact .inr (hn k hk)
    · exact .inl (.inr hk)
  · obtain ⟨_, cs, hO⟩ := h1.opn.at_ e
    exact set_other _ (ne_block hO h1.head (by decide))
  · rw [set_other _ (ne_block hh h1.head (by decide))]
    exact hh
theorem RefC.setZ {Z' : List Bool} {v' : Value} (h : RefC w N base R lvl B Z os vB vZ rA rc) (hb : Below w.heap.size w w1) (hr : w1.ownsRow base 4 1 v' Z'.length (bools Z')) :
    RefC (w1.setCell ⟨R, 2, none⟩ v') N base R lvl B Z' os vB v' rA rc := by
  have h1 := h.below hb
  refine ⟨by rw [set_cell h1.head]; rfl, own_stay h1.rb fun k hk => set_other _ (fun e => ?_), own_stay hr fun k hk => set_other _ (fun e => ?_), h1.opn.kept (fun O o e => ?_) (fun g cs fz hh => ?_), h.bL⟩
  · subst e
    exact own_ne_block h1.rb h1.head (by decide) hk
  · subst e
    exact own_ne_block hr h1.head (by decide) hk
  · obtain ⟨_, cs, hO⟩ := h1.opn.at_ e
    exact set_other _ (ne_block hO h1.head (by decide))
  · rw [set_other _ (ne_block hh h1.head (by decide))]
    exact hh
set_option maxHeartbeats 4000000 in
set_option maxRecDepth 1000000 in
theorem Rblank_calls (n : Nat) (h : RefC w N base R lvl B Z os vB vZ rA rc) (ho : ∀ x ∈ os, 0 < x.2.length) (hbase : base ≤ w.heap.size) (hn : n ≤ 65536) :
    Calls Try.prog 51 #[.pointer (some ⟨R, 0, none⟩), .int .i64 (n : Int)] w fun e w' => e = .returned (.tuple #[]) ∧ ∃ vB' vZ', RefC w' N base R lvl (List.replicate n 0) (List.replicate n false) os vB' vZ' rA rc ∧ FrR w w' R vB vZ rA vB' vZ' rA := by
  have hmk := print_make_int (P := Try.prog) 22 5 (.int .u8 0) 1 Try.underlying22 infoU8 rfl (by decide) (n : Int) (by omega) (by omega)
  have hmz := print_make_int (P := Try.prog) 70 4 (.bool false) 1 Try.underlying70 infoB rfl (by decide) (n : Int) (by omega) (by omega)
  rw [Int.toNat_natCast, made_bytes] at hmk
  rw [Int.toNat_natCast, made_bools] at hmz
  have hb1 := (Below.refl w.heap.size w).alloc (Nat.le_refl _) (.cells (nums .u8 (List.replicate n 0)).toArray 5)
  have hg1 := heap_alloc_new w (.cells (nums .u8 (List.replicate n 0)).toArray 5)
  obtain ⟨wa, hwa⟩ : ∃ wa, w.alloc (.cells (nums .u8 (List.replicate n 0)).toArray 5) = wa := ⟨_, rfl⟩
  rw [hwa] at hb1 hg1
  have q1 := (h.below hb1).c1
  have f1 := (h.below hb1).fz 1
  have o1 := own_new (base := base) hg1 (n := n) (by rw [nums_len, List.length_replicate]) hbase (by unfold maxLen; omega)
  have r1 := h.setB (B' := List.replicate n 0) ho hb1 (by rw [List.length_replicate]; exact o1) (fun k hk => by simp only [Value.ownBlock, Option.some.injEq] at hk; omega)
  have fr1 : FrR w (wa.setCell ⟨R, 1, none⟩ (.slice (some ⟨w.heap.size, 0, none⟩) n n)) R vB vZ rA (.slice (some ⟨w.heap.size, 0, none⟩) n n) vZ rA := by
    have := ((FrR.refl w R vB vZ rA).below hb1).set 1 (.slice (some ⟨w.heap.size, 0, none⟩) n n)
    exact ⟨this.os, this.tape, this.output, this.size, this.block, fun k hk => .inr (by simp only [Value.ownBlock, Option.some.injEq] at hk; omega), this.nz, this.nl⟩
  obtain ⟨wb, hwb⟩ : ∃ wb, wa.setCell ⟨R, 1, none⟩ (.slice (some ⟨w.heap.size, 0, none⟩) n n) = wb := ⟨_, rfl⟩
  rw [hwb] at r1 fr1
  have hb2 := (Below.refl wb.heap.size wb).alloc (Nat.le_refl _) (.cells (bools (List.replicate n false)).toArray 4)
  have hg2 := heap_alloc_new wb (.cells (bools (List.replicate n false)).toArray 4)
  obtain ⟨wc, hwc⟩ : ∃ wc, wb.alloc (.cells (bools (List.replicate n false)).toArray 4) = wc := ⟨_, rfl⟩
  rw [hwc] at hb2 hg2
  have q2 := (r1.below hb2).c2
  have f2 := (r1.below hb2).fz 2
  have o2 := own_new (base := base) hg2 (n := n) (by rw [bools_len, List.length_replicate]) (Nat.le_trans hbase fr1.size) (by unfold maxLen; omega)
  have r2 := r1.setZ (Z' := List.replicate n false) hb2 (by rw [List.length_replicate]; exact o2)
  have fr2 : FrR w (wc.setCell ⟨R, 2, none⟩ (.slice (some ⟨wb.heap.size, 0, none⟩) n n)) R vB vZ rA (.slice (some ⟨w.heap.size, 0, none⟩) n n) (.slice (some ⟨wb.heap.size, 0, none⟩) n n) rA := by
    have := (fr1.below hb2).set 2 (.slice (some ⟨wb.heap.size, 0, none⟩) n n)
    exact ⟨this.os, this.tape, this.output, this.size, this.block, this.nb, fun k hk => .inr (by simp only [Value.ownBlock, Option.some.injEq] at hk; have := fr1.size; omega), this.nl⟩
  have HR := Lib.hid (And.intro r2 fr2)
  clear h hb1 hg1 o1 r1 fr1 hb2 hg2 o2 r2 fr2 ho
  go_enter Try.func51, Try.ntmps51
  go_wp2_with fail
  go_end0
  exact ⟨rfl, _, _, HR.out.1, HR.out.2⟩
theorem RefC.new {N : Nat → Prop} (w : World) (base lvl : Nat) (hb : base ≤ w.heap.size) : RefC (w.alloc (.cells #[.int .u8 (lvl : Int), .slice none 0 0, .slice none 0 0, .slice none 0 0] 72)) N base w.heap.size lvl [] [] [] (.slice none 0 0) (.slice none 0 0) none 0 :=
  ⟨heap_alloc_new w _, ⟨rfl, .inl ⟨rfl, rfl⟩⟩, ⟨rfl, .inl ⟨rfl, rfl⟩⟩, .inl ⟨rfl, rfl, rfl⟩, fun L o e => by cases e⟩
set_option maxHeartbeats 4000000 in
theorem Rnew_ok (N : Nat → Prop) (base lvl size : Nat) (w : World) (hl : lvl ≤ 3) (hs : size ≤ 65536) (hb : base ≤ w.heap.size) :
    Calls Try.prog 43 #[.int .u8 (lvl : Int), .int .i64 (size : Int)] w fun e w' => e = .returned (.tuple #[.pointer (some ⟨w.heap.size, 0, none⟩), .int .i64 0]) ∧ ∃ vB vZ, RefC w' N base w.heap.size lvl (List.replicate size 0) (List.replicate size false) [] vB vZ none 0 ∧ Below w.heap.size w w' ∧ (∀ k, vB.ownBlock = some k → w.heap.size ≤ k) := by
  have d1 : decide ((3 : Int) < (lvl : Int)) = false := by simp; omega
  have d2 : decide ((size : Int) < 0) = false := by simp
  have d3 : decide ((65536 : Int) < (size : Int)) = false := by simp; omega
  have h1 := RefC.new (N := N) w base lvl hb
  have hb1 := (Below.refl w.heap.size w).alloc (Nat.le_refl _) (.cells #[.int .u8 (lvl : Int), .slice none 0 0, .slice none 0 0, .slice none 0 0] 72)
  obtain ⟨w1, hw1⟩ : ∃ w1, w.alloc (.cells #[.int .u8 (lvl : Int), .slice none 0 0, .slice none 0 0, .slice none 0 0] 72) = w1 := ⟨_, rfl⟩
  rw [hw1] at h1 hb1
  have C1 := Lib.hid (Rblank_calls size h1 (fun x hx => (by cases hx)) (Nat.le_trans hb hb1.size) hs)
  have HB1 := Lib.hid hb1
  clear h1 hb1
  go_enter Try.func43, Try.ntmps43
  go_wp2_with fail
  refine (C1.out).mono ?_
  rintro e w2 ⟨rfl, vB, vZ, h2, hf2⟩
  have hbw : Below w.heap.size w w2 := ⟨hf2.os.trans HB1.out.os, hf2.tape.trans HB1.out.tape, hf2.output.trans HB1.out.output, Nat.le_trans HB1.out.size hf2.size, fun k hk => (hf2.block k (Nat.lt_of_lt_of_le hk HB1.out.size) (by omega) (fun e => by cases e) (fun e => by cases e) (fun o e => by cases e)).trans (HB1.out.block k hk)⟩
  have hvb : ∀ k, vB.ownBlock = some k → w.heap.size ≤ k := fun k hk => by
    rcases hf2.nb k hk with h | h
    · cases h
    · exact Nat.le_trans HB1.out.size h
  have HF := Lib.hid (And.intro h2 (And.intro hbw hvb))
  clear h2 hf2 hbw hvb C1 hw1
  go_wp2_with fail
  go_ret2
  exact ⟨rfl, vB, vZ, HF.out⟩
/-- New is refused. -/
def NBad (lvl size : Int) : Prop := 3 < lvl ∨ size < 0 ∨ 65536 < size
set_option maxHeartbeats 2000000 in
theorem Rnew_bad (lvl size : Int) (w : World) (h : NBad lvl size) :
    Calls Try.prog 43 #[.int .u8 lvl, .int .i64 size] w fun e w' => e = .returned (.tuple #[.pointer none, .int .i64 2]) ∧ w' = w := by
  unfold NBad at h
  by_cases h1 : 3 < lvl
  · go_enter Try.func43, Try.ntmps43
    go_wp2
    go_ret2
    exact ⟨rfl, rfl⟩
  · by_cases h2 : size < 0
    · go_enter Try.func43, Try.ntmps43
      go_wp2
      go_ret2
      exact ⟨rfl, rfl⟩
    · have h3 : 65536 < size := by omega
      clear h
      go_enter Try.func43, Try.ntmps43
      go_wp2
      go_ret2
      exact ⟨rfl, rfl⟩
set_option maxHeartbeats 2000000 in
theorem New_bad (lvl size : Int) (w : World) (h : NBad lvl size) :
    Calls Try.prog 11 #[.int .u8 lvl, .int .i64 size] w fun e w' => e = .returned (.tuple #[.pointer none, .int .i64 2]) ∧ w' = w := by
  unfold NBad at h
  by_cases h1 : 3 < lvl
  · go_enter Try.func11, Try.ntmps11
    go_wp2
    go_ret2
    exact ⟨rfl, rfl⟩
  · by_cases h2 : size < 0
    · go_enter Try.func11, Try.ntmps11
      go_wp2
      go_ret2
      exact ⟨rfl, rfl⟩
    · have h3 : 65536 < size := by omega
      clear h
      go_enter Try.func11, Try.ntmps11
      go_wp2
      go_ret2
      exact ⟨rfl, rfl⟩
set_option maxHeartbeats 2000000 in
theorem Rsettle_none (h : RefC w N base R lvl B Z [] vB vZ rA rc) :
    Calls Try.prog 52 #[.pointer (some ⟨R, 0, none⟩)] w fun e w' => e = .returned (.int .i64 17) ∧ w' = w := by
  have q := h.c3
  rw [List.length_nil] at q
  clear h
  go_enter Try.func52, Try.ntmps52
  go_wp2
  go_ret
  exact ⟨rfl, rfl⟩
theorem run_from1 (A : Option Addr) (n c : Nat) (h1 : 1 ≤ n) (hn : n ≤ c) (W : World) :
    (Instr.slice 23 (.slice A n c) (some (.int .i64 1)) none none).run Try.prog W = .ok (.slice (segA A c 1) (n - 1) (c - 1)) W := by
  obtain ⟨i0, hi0, hz0, hz1, hz2⟩ := info_parts infoE
  have he : Try.prog.elem 23 = 32 := by kernel_rfl
  rw [run_slice_l W 23 A n c (by rw [he]; exact Try.underlying23) .i64 1 (by omega) (by omega), he]
  simp [sizeOf, typeInfo, hi0, hz1, sliced, segA]
set_option maxHeartbeats 4000000 in
theorem Rsettle_calls {x : Ext} (h : RefC w N base R lvl B Z (x :: os) vB vZ rA rc) (ho : ∀ y ∈ os, 0 < y.2.length) :
    Calls Try.prog 52 #[.pointer (some ⟨R, 0, none⟩)] w fun e w' => e = .returned (.int .i64 0) ∧ ∃ rA' rc', RefC w' N base R lvl B Z os vB vZ rA' rc' ∧ FrR w w' R vB vZ rA vB vZ rA' := by
  have q := h.c3
  have f := h.fz 3
  have hrc : os.length + 1 ≤ rc := by
    rcases h.opn with ⟨_, h2, _⟩ | ⟨O, k, cs, _, _, _, hc, _⟩
    · cases h2
    · exact hc
  obtain ⟨t1, t2⟩ := h.opn.tail_ rc (rc - 1) (by omega) (by omega) (by omega)
  rw [List.length_cons] at q
  have hseg := fun W => run_from1 rA (os.length + 1) rc (by omega) hrc W
  rw [Nat.add_sub_cancel] at hseg
  have HD := Lib.hid h
  obtain ⟨SA, hSA⟩ : ∃ SA, segA rA rc 1 = SA := ⟨_, rfl⟩
  obtain ⟨m, hm⟩ : ∃ m, rc - 1 = m := ⟨_, rfl⟩
  obtain ⟨k, hk⟩ : ∃ k, os.length = k := ⟨_, rfl⟩
  obtain ⟨n, hn⟩ : ∃ n, k + 1 = n := ⟨_, rfl⟩
  rw [hSA, hm] at t1
  rw [hSA, hm, hk, hn] at hseg
  rw [hSA] at t2
  rw [hk, hn] at q
  have T1 := Lib.hid t1
  have T2 := Lib.hid t2
  have HK := Lib.hid hk
  have d1 : ((n : Int) == 0) = false := by simp; omega
  clear h t1 t2 hSA hm hk hn hrc
  go_enter Try.func52, Try.ntmps52
  go_wp2
  go_ret
  refine ⟨rfl, SA, m, ⟨?_, own_stay HD.out.rb fun k hk => set_other _ (fun e => ?_), own_stay HD.out.rz fun k hk => set_other _ (fun e => ?_), T1.out.kept (fun O o e => ?_) (fun g cs fz hh => ?_), fun L o e => ?_⟩, ?_⟩
  · rw [set_cell HD.out.head, HK.out]
    rfl
  · subst e
    exact own_ne_block HD.out.rb HD.out.head (by decide) hk
  · subst e
    exact own_ne_block HD.out.rz HD.out.head (by decide) hk
  · obtain ⟨_, cs, hO⟩ := T1.out.at_ e
    exact set_other _ (ne_block hO HD.out.head (by decide))
  · rw [set_other _ (ne_block hh HD.out.head (by decide))]
    exact hh
  · rcases T2.out L o e with ⟨o', h1⟩ | h1
    · exact HD.out.bL L o' h1
    · have := (T1.out.at_ e).1
      omega
  · have := (FrR.refl w R vB vZ rA).set 3 (.slice SA k m)
    exact ⟨this.os, this.tape, this.output, this.size, this.block, this.nb, this.nz, T2.out⟩
set_option maxHeartbeats 2000000 in
theorem Rdown_arg (l : Nat) (h : RefC w N base R lvl B Z os vB vZ rA rc) (hl : lvl ≤ l) :
    Calls Try.prog 53 #[.pointer (some ⟨R, 0, none⟩), .int .u8 (l : Int)] w fun e w' => e = .returned (.int .i64 2) ∧ w' = w := by
  have q := h.c0
  have d1 : decide ((lvl : Int) ≤ (l : Int)) = true := by simp; omega
  clear h
  go_enter Try.func53, Try.ntmps53
  go_wp2
  go_ret
  exact ⟨rfl, rfl⟩
set_option maxHeartbeats 2000000 in
theorem Rdown_state (l : Nat) (h : RefC w N base R lvl B Z os vB vZ rA rc) (hl : l < lvl) (h2 : l < 2) (ho : 0 < os.length) :
    Calls Try.prog 53 #[.pointer (some ⟨R, 0, none⟩), .int .u8 (l : Int)] w fun e w' => e = .returned (.int .i64 17) ∧ w' = w := by
  have q := h.c0
  have q4 := h.c3
  have d1 : decide ((lvl : Int) ≤ (l : Int)) = false := by simp; omega
  have d2 : decide ((l : Int) < 2) = true := by simp; omega
  have d3 : decide ((0 : Int) < (os.length : Int)) = true := by simp; omega
  clear h
  generalize os.length = on at *
  go_enter Try.func53, Try.ntmps53
  go_wp2
  go_ret
  exact ⟨rfl, rfl⟩
set_option maxHeartbeats 4000000 in
theorem Rdown_some (l : Nat) (h : RefC w N base R lvl B Z os vB vZ rA rc) (hl : l < lvl) (h0 : 0 < l) (h2 : 2 ≤ l ∨ os.length = 0) :
    Calls Try.prog 53 #[.pointer (some ⟨R, 0, none⟩), .int .u8 (l : Int)] w fun e w' => e = .returned (.int .i64 0) ∧ RefC w' N base R l B Z os vB vZ rA rc ∧ FrR w w' R vB vZ rA vB vZ rA := by
  have q := h.c0
  have q4 := h.c3
  have f := h.fz 0
  have HF := Lib.hid (h.set0 l)
  have d1 : decide ((lvl : Int) ≤ (l : Int)) = false := by simp; omega
  have d4 : ((l : Int) == 0) = false := by simp; omega
  clear h
  generalize os.length = on at *
  by_cases hl2 : l < 2
  · have d2 : decide ((l : Int) < 2) = true := by simp; omega
    have hon : on = 0 := by omega
    subst hon
    go_enter Try.func53, Try.ntmps53
    go_wp2
    go_ret
    exact ⟨rfl, HF.out, (FrR.refl _ _ _ _ _).set 0 _⟩
  · have d2 : decide ((l : Int) < 2) = false := by simp; omega
    go_enter Try.func53, Try.ntmps53
    go_wp2
    go_ret
    exact ⟨rfl, HF.out, (FrR.refl _ _ _ _ _).set 0 _⟩
set_option maxHeartbeats 4000000 in
theorem Rdown_zero (h : RefC w N base R lvl B Z [] vB vZ rA rc) (hl : 0 < lvl) (hB : B.length ≤ 65536) (hbase : base ≤ w.heap.size) :
    Calls Try.prog 53 #[.pointer (some ⟨R, 0, none⟩), .int .u8 0] w fun e w' => e = .returned (.int .i64 0) ∧ ∃ vB' vZ', RefC w' N base R 0 (List.replicate B.length 0) (List.replicate B.length false) [] vB' vZ' rA rc ∧ FrR w w' R vB vZ rA vB' vZ' rA := by
  obtain ⟨AB, cB, rfl, _, _⟩ := own_slice_form h.rb
  have q := h.c0
  have q4 := h.c3
  rw [List.length_nil] at q4
  have f := h.fz 0
  have h1 := h.set0 0
  have hf1 := (FrR.refl w R (.slice AB B.length cB) vZ rA).set 0 (.int .u8 0)
  have hsz : (w.setCell ⟨R, 0, none⟩ (.int .u8 0)).heap.size = w.heap.size := by show (w.heap.modify R _).size = _; rw [Array.size_modify]
  have cB := Rblank_calls B.length h1 (fun x hx => (by cases hx)) (by rw [Int.natCast_zero, hsz]; exact hbase) hB
  have q1 := h1.c1
  rw [Int.natCast_zero] at cB q1 h1
  have CB := Lib.hid cB
  have HF1 := Lib.hid hf1
  have d1 : decide ((lvl : Int) ≤ 0) = false := by simp; omega
  generalize B.length = bl at *
  clear h h1 cB hf1 hsz
  go_enter Try.func53, Try.ntmps53
  go_wp2_with fail
  refine (CB.out).mono ?_
  rintro e w2 ⟨rfl, vB', vZ', h2, hf2⟩
  have HFIN := Lib.hid (And.intro h2 (HF1.out.trans hf2))
  clear h2 hf2 CB
  go_wp2
  go_ret
  exact ⟨rfl, vB', vZ', HFIN.out⟩
set_option maxHeartbeats 2000000 in
theorem Rforget_state (n : Int) (h : RefC w N base R lvl B Z os vB vZ rA rc) (ho : 0 < os.length) :
    Calls Try.prog 54 #[.pointer (some ⟨R, 0, none⟩), .int .i64 n] w fun e w' => e = .returned (.int .i64 17) ∧ w' = w := by
  have q4 := h.c3
  have d3 : decide ((0 : Int) < (os.length : Int)) = true := by simp; omega
  clear h
  generalize os.length = on at *
  go_enter Try.func54, Try.ntmps54
  go_wp2
  go_ret
  exact ⟨rfl, rfl⟩
set_option maxHeartbeats 2000000 in
theorem Rforget_arg (n : Int) (h : RefC w N base R lvl B Z [] vB vZ rA rc) (hn : n < 0 ∨ 65536 < n) :
    Calls Try.prog 54 #[.pointer (some ⟨R, 0, none⟩), .int .i64 n] w fun e w' => e = .returned (.int .i64 2) ∧ w' = w := by
  have q4 := h.c3
  rw [List.length_nil] at q4
  clear h
  by_cases h1 : n < 0
  · go_enter Try.func54, Try.ntmps54
    go_wp2
    go_ret
    exact ⟨rfl, rfl⟩
  · have h2 : 65536 < n := by omega
    clear hn
    go_enter Try.func54, Try.ntmps54
    go_wp2
    go_ret
    exact ⟨rfl, rfl⟩
set_option maxHeartbeats 4000000 in
theorem Rforget_calls (n : Nat) (h : RefC w N base R lvl B Z [] vB vZ rA rc) (hn : n ≤ 65536) (hbase : base ≤ w.heap.size) :
    Calls Try.prog 54 #[.pointer (some ⟨R, 0, none⟩), .int .i64 (n : Int)] w fun e w' => e = .returned (.int .i64 0) ∧ ∃ vB' vZ', RefC w' N base R lvl (List.replicate n 0) (List.replicate n false) [] vB' vZ' rA rc ∧ FrR w w' R vB vZ rA vB' vZ' rA := by
  have q4 := h.c3
  rw [List.length_nil] at q4
  have CB := Lib.hid (Rblank_calls n h (fun x hx => (by cases hx)) hbase hn)
  have d1 : decide ((n : Int) < 0) = false := by simp
  have d2 : decide ((65536 : Int) < (n : Int)) = false := by simp; omega
  clear h
  go_enter Try.func54, Try.ntmps54
  go_wp2_with fail
  refine (CB.out).mono ?_
  rintro e w2 ⟨rfl, vB', vZ', h2, hf2⟩
  have HFIN := Lib.hid (And.intro h2 hf2)
  clear h2 hf2 CB
  go_wp2
  go_ret
  exact ⟨rfl, vB', vZ', HFIN.out⟩
set_option maxHeartbeats 2000000 in
theorem Rfirst_none (h : RefC w N base R lvl B Z [] vB vZ rA rc) :
    Calls Try.prog 33 #[.pointer (some ⟨R, 0, none⟩)] w fun e w' => e = .returned (.tuple #[.int .i64 0, .slice none 0 0, .bool false]) ∧ w' = w := by
  have q4 := h.c3
  rw [List.length_nil] at q4
  clear h
  go_enter Try.func33, Try.ntmps33
  go_wp2
  go_ret3
  exact ⟨rfl, rfl⟩
set_option maxHeartbeats 4000000 in
set_option maxRecDepth 1000000 in
theorem Rfirst_calls {x : Ext} (h : RefC w N base R lvl B Z (x :: os) vB vZ rA rc) :
    Calls Try.prog 33 #[.pointer (some ⟨R, 0, none⟩)] w fun e w' => ∃ A c, e = .returned (.tuple #[.int .i64 (x.1 : Int), .slice A x.2.length c, .bool true]) ∧ BA w' A c x.2 ∧ Below w.heap.size w w' := by
  have q4 := h.c3
  obtain ⟨O, k, A, c', rfl, hO, p0, p1, hBR⟩ := h.opn.piece (i := 0) (x := x) rfl
  rw [Nat.zero_mul, Nat.add_zero] at p0
  rw [Nat.zero_mul, Nat.zero_add] at p1
  rw [List.length_cons] at q4
  obtain ⟨n, hn⟩ : ∃ n, os.length + 1 = n := ⟨_, rfl⟩
  rw [hn] at q4
  have d1 : ((n : Int) == 0) = false := by simp; omega
  have i1 : (0 : Int) < (n : Int) := by omega
  have i2 : 0 < n := by omega
  have HBR := Lib.hid hBR
  clear h hBR hn
  generalize x.2.length = m at *
  go_enter Try.func33, Try.ntmps33
  go_wp2_with fail
  go_quiet (fail)
  go_wp2
  go_ret3
  exact ⟨A, c', rfl, HBR.out.ba.keep (drewN_b _ _), drewN_b _ _⟩
end Go.Proofs.Ytbnkiefchbcfgaa.U
