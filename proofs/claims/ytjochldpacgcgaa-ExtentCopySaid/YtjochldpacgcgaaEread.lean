/- extent: Read. -/
import Derived.Test.YtjochldpacgcgaaEmem
import Derived.Laws.IdiomCopy
import Derived.Laws.CopyRow
import Derived.Laws.Runes
import Derived.StillTailTactics
set_option linter.unusedVariables false
set_option linter.unusedSimpArgs false
namespace Go.Proofs.Ytjochldpacgcgaa.U
open Go.RowKit Go.Proofs Go.Lib Go.Proofs.YtjochldpacgcgaaW.PrintWords

variable {N : Nat → Prop}
theorem infoU8 : (Try.prog.info? 5).map (fun i => (i.zero, i.size, i.bytes)) = some (some (.int .u8 0), 1, 1) := by kernel_rfl
theorem sizeU8 : (Try.prog.info? 5).map (·.size) = some 1 := by kernel_rfl
theorem made_bytes (n : Nat) : madeCells #[Value.int .u8 0] n = (nums .u8 (List.replicate n 0)).toArray := by
  apply Array.ext
  · simp [madeCells, nums]
  · intro i h1 h2
    simp [madeCells, nums, Nat.mod_one]
theorem below_setRow {B g : Nat} {w0 w : World} (h : Below B w0 w) (hB : B ≤ g) (cs : Array Value) : Below B w0 (w.setRow g cs) :=
  ⟨h.os, h.tape, h.output, by have := h.size; show w0.heap.size ≤ (w.heap.modify g _).size; rw [Array.size_modify]; exact this, fun k hk => (setRow_other w g k cs (by omega)).trans (h.block k hk)⟩
theorem nums_len (xs : List Int) : (nums .u8 xs).length = xs.length := by simp [nums]
theorem run_cp (w : World) (t ty : TypeId) (hu : Try.prog.underlying t = some (.slice 5)) (g o : Nat) (A : Option Addr) (c n : Nat) (out bs : List Int) (hR : BR w A c bs) (ho : o ≤ out.length) (hn : n = out.length - o)
    (hg : w.heap[g]? = some (.cells (nums .u8 out).toArray 5 (0, 0))) :
    ∃ w' z, (Builtin.copy_ #[t, t] ty #[.slice (some ⟨g, o, none⟩) n n, .slice A bs.length c]).run Try.prog w = .ok z w' ∧ w'.heap[g]? = some (.cells (nums .u8 (cp out o bs)).toArray 5 (0, 0)) ∧
      (∀ (w0 : World) (B : Nat), Below B w0 w → B ≤ g → Below B w0 w') ∧ ∀ k, k ≠ g → w'.heap[k]? = w.heap[k]? := by
  subst hn
  rcases Nat.eq_zero_or_pos (Nat.min bs.length (out.length - o)) with h0 | h0
  · refine ⟨w, _, run_copy_none (P := Try.prog) w t t ty 5 _ A _ _ bs.length c hu sizeU8 h0, ?_, fun _ _ h _ => h, fun _ _ => rfl⟩
    have e : cp out o bs = out := by
      unfold cp
      rcases Nat.eq_zero_or_pos bs.length with hb | hb
      · obtain rfl : bs = [] := List.eq_nil_of_length_eq_zero hb
        simp
      · have hm : Nat.min bs.length (out.length - o) = min bs.length (out.length - o) := rfl
        have : out.length - o = 0 := by omega
        rw [this, List.take_zero, List.drop_eq_nil_of_le (by omega), List.take_of_length_le (by omega)]
        simp
    rw [e]
    exact hg
  · have hm : Nat.min bs.length (out.length - o) = min bs.length (out.length - o) := rfl
    obtain ⟨b, off, cs, fz, rfl, hh, hc⟩ := hR.2 (by omega)
    have hl : (bs.take (out.length - o)).length = min (out.length - o) bs.length := List.length_take
    have hsrc : ∀ j v, (nums .u8 (bs.take (out.length - o)))[j]? = some v → w.cell? ((⟨b, off, none⟩ : Addr).add j) = some v := by
      intro j v hj
      have hjl : j < (bs.take (out.length - o)).length := by
        have := (List.getElem?_eq_some_iff.1 hj).1
        rwa [nums_len] at this
      have e : (⟨b, off, none⟩ : Addr).add j = ⟨b, off + j, none⟩ := by
        unfold Addr.add
        split
        · rename_i h; subst h; rfl
        · rfl
      rw [e, Lib.cell_of_heap hh]
      unfold nums at hj
      rw [List.getElem?_map, List.getElem?_take, if_pos (by omega)] at hj
      obtain ⟨z, hz, rfl⟩ := Option.map_eq_some_iff.1 hj
      exact hc j z hz
    have h1 : ∀ u ∈ nums .u8 (bs.take (out.length - o)), u.oneCell' = true := by
      intro u hu
      obtain ⟨z, _, rfl⟩ := List.mem_map.1 hu
      rfl
    have hr := run_copy_row (P := Try.prog) w t t ty 5 g o (out.length - o) (out.length - o) ⟨b, off, none⟩ bs.length c (nums .u8 out).toArray 5 (nums .u8 (bs.take (out.length - o))) hu sizeU8 hg (by rw [nums_len, hl, hm]; omega) hsrc (by rw [nums_len, hl]; simp [nums]; omega) h1
    refine ⟨_, _, hr, ?_, fun w0 B hb hB => below_setRow hb hB _, fun k hk => setRow_other w g k _ hk⟩
    rw [setRow_heap w g _ _ _ _ hg, nums_len, hl]
    have e : (nums .u8 out).toArray.toList.take o ++ nums .u8 (bs.take (out.length - o)) ++ (nums .u8 out).toArray.toList.drop (o + min (out.length - o) bs.length) = nums .u8 (cp out o bs) := by
      unfold cp nums
      simp only [List.map_append, List.map_take, List.map_drop, List.toList_toArray]
      congr 1
      rcases Nat.lt_or_ge bs.length (out.length - o) with h | h
      · rw [show o + min (out.length - o) bs.length = o + bs.length by omega]
      · rw [List.drop_eq_nil_of_le (by simp; omega), List.drop_eq_nil_of_le (by simp; omega)]
    rw [e]
theorem wpList_cp {w : World} {ops : Array Oper} {rest : List Oper} {o : Oper} {act : Act} {Q : Exit → Act → World → Prop} (hgd : o.guard = none) (d s : Operand) (t : TypeId)
    (ho : o.op = .call { callee := .builtin .copy, args := #[d, s], argTypes := #[t, t] }) (hu : Try.prog.underlying t = some (.slice 5)) (g k : Nat) (A : Option Addr) (n m c : Nat) (out bs : List Int) (hR : BR w A c bs) (hk : k ≤ out.length) (hn : n = out.length - k) (hm : bs.length = m)
    (hg : w.heap[g]? = some (.cells (nums .u8 out).toArray 5 (0, 0))) (hd : act.eval d = .slice (some ⟨g, k, none⟩) n n) (hx : act.eval s = .slice A m c)
    (h : ∀ w' z, w'.heap[g]? = some (.cells (nums .u8 (cp out k bs)).toArray 5 (0, 0)) → (∀ (w0 : World) (B : Nat), Below B w0 w → B ≤ g → Below B w0 w') → wpList Try.prog ops Q rest (act.put o.dst z) w') : wpList Try.prog ops Q (o :: rest) act w := by
  refine wpList_plain hgd fun K hK => ?_
  subst hm
  obtain ⟨w', z, hr, h2, h3, _⟩ := run_cp w t o.type hu g k A c n out bs hR hk hn hg
  unfold Oper.wp execOp
  simp only [ho, resolve, invoke, builtin, Sem.run_bind, Sem.run_pure, Result.andThen_ok, List.map_toArray, List.map_cons, List.map_nil, hd, hx, hr]
  exact hK _ _ (h w' z h2 h3)

theorem BR.drop {w : World} {A : Option Addr} {c : Nat} {bs : List Int} (h : BR w A c bs) (k : Nat) (hk : ¬ c = k) : BR w (A.map fun a => a.add k) (c - k) (bs.drop k) := by
  obtain ⟨h1, h2⟩ := h
  refine ⟨by rw [List.length_drop]; omega, fun h0 => ?_⟩
  rw [List.length_drop] at h0
  obtain ⟨g, o, cs, fz, rfl, hh, hc⟩ := h2 (by omega)
  refine ⟨g, o + k, cs, fz, ?_, hh, fun j b hj => ?_⟩
  · show some ((⟨g, o, none⟩ : Addr).add k) = _
    unfold Addr.add
    split
    · rename_i h; subst h; rfl
    · rfl
  · rw [List.getElem?_drop] at hj
    rw [Nat.add_assoc]
    exact hc (k + j) b hj
theorem BR.nil (w : World) (A : Option Addr) (c : Nat) : BR w A c [] := ⟨Nat.zero_le _, fun h => absurd h (by decide)⟩
theorem skip_mem {p : Nat} : ∀ {xs : List Ext} {k : Nat}, Ok k xs → ∀ x ∈ skip p xs, p ≤ en x := by
  intro xs
  induction xs with
  | nil => intro k _ x hx; cases hx
  | cons y t ih =>
    intro k h x hx
    rw [skip] at hx
    split at hx
    · exact ih h.2.2 x hx
    · rename_i hc
      rcases List.mem_cons.1 hx with rfl | hx
      · omega
      · have := h.2.2.mem x hx
        have e : en x = x.1 + x.2.length := rfl
        omega
set_option maxHeartbeats 8000000 in
set_option maxRecDepth 1000000 in
theorem Read_calls (D size p m : Nat) (n : Int) (xs : List Ext) (lA : Option Addr) (c : Nat) (w : World) (h : DataAt w N D size xs lA c) (hok : Ok 0 xs) (hl : xs.length ≤ 1000000000) (hx : ∀ x ∈ xs, en x ≤ size) (hsz : size ≤ 1000000000) (hp : p < size) (hn : 0 < n) (hn2 : n ≤ 9223372036854775807) (hm : (m : Int) = min n ((size : Int) - (p : Int))) :
    Calls Try.prog 13 #[.pointer (some ⟨D, 0, none⟩), .int .i64 (p : Int), .int .i64 n] w fun e w' => ∃ O, e = .returned (.tuple #[.slice (some ⟨O, 0, none⟩) m m, .int .i64 0]) ∧ w.heap.size ≤ O ∧ w'.heap[O]? = some (.cells (nums .u8 (bytesAt xs p m)).toArray 5 (0, 0)) ∧ Below w.heap.size w w' := by
  obtain ⟨q1, q2, q3, hD⟩ := h.cells
  have c1 := off_on D w q1
  have hmp : m ≤ size := by omega
  have hmk := print_make_int (P := Try.prog) 29 5 (.int .u8 0) 1 Try.underlying29 infoU8 rfl (by decide) (m : Int) (by omega) (by omega)
  rw [Int.toNat_natCast, made_bytes] at hmk
  have hb2 : Below w.heap.size w (w.alloc (.cells (nums .u8 (List.replicate m 0)).toArray 5)) := (Below.refl _ _).alloc (Nat.le_refl _) _
  have hO := heap_alloc_new w (.cells (nums .u8 (List.replicate m 0)).toArray 5)
  have hD2 := h.below hb2
  have hmk2 := hmk w
  have hOs : w.heap.size < (w.alloc (.cells (nums .u8 (List.replicate m 0)).toArray 5)).heap.size := by simp
  obtain ⟨w2, hw2⟩ : ∃ w2, w.alloc (.cells (nums .u8 (List.replicate m 0)).toArray 5) = w2 := ⟨_, rfl⟩
  rw [hw2] at hb2 hO hD2 hmk2 hOs
  have cF := fun W (hb : Below w2.heap.size w2 W) => from_calls D size p xs lA c W (hD2.below hb) hok hl (fun x hm => by have := hx x hm; omega) (by omega)
  obtain ⟨_, _, q5, hDs⟩ := hD2.cells
  have hfr := frN_le p xs
  have hfs := frN_skip p xs
  have hread := read_spec hok p m
  have hsk := skip_spec p xs 0 hok
  have HSM := Lib.hid (skip_mem (p := p) hok)
  have HDW := Lib.hid h
  have C1 := Lib.hid c1
  have CF := Lib.hid cF
  have HD := Lib.hid hD2
  have HX := Lib.hid hx
  have HB2 := Lib.hid hb2
  have HO := Lib.hid hO
  have HREAD := Lib.hid hread
  have HFS := Lib.hid hfs
  have HOK := Lib.hid hsk.1
  have hif : (if (size : Int) - (p : Int) < n then (size : Int) - (p : Int) else n) = (m : Int) := by
    rw [hm]
    split <;> omega
  clear hm hmk hw2 hread hfs hsk
  have d1 : decide ((p : Int) < 0) = false := by simp
  have d2 : decide (n < 0) = false := by simp; omega
  have d3 : (n == 0) = false := by simp; omega
  have d4 : decide ((size : Int) ≤ (p : Int)) = false := by simp; omega
  clear c1 h hok hx cF hb2 hO
  have hcase := HD.out.2
  generalize hnn : xs.length = nn at *
  have HNN := Lib.hid hnn
  clear hnn hD2
  rcases hcase with ⟨rfl, rfl, rfl⟩ | ⟨L, cs, rfl, hL, hcs, hnc, hEC⟩
  · have h0 : nn = 0 := by have := HNN.out; simpa using this.symm
    subst h0
    have hf0 : frN p [] = 0 := rfl
    rw [hf0] at CF
    go_enter Try.func13, Try.ntmps13
    go_wp2_with fail
    refine (C1.out).mono ?_
    rintro e w1 ⟨rfl, rfl⟩
    go_wp2_with fail
    go_region_held3 (fun w' => Below w2.heap.size w2 w' ∧ w'.cell? ⟨D, 2, none⟩ = some (.slice none 0 0)) (first | exact ⟨below_drew1 (Below.refl _ _), q5⟩ | exact ⟨(below_drew1 (Below.refl _ _)).trans hb, (hb.cell (p := ⟨D, 2, none⟩) hDs).trans q5⟩) (first | (go_at_call 29; refine (CF.out _ (below_drew1 (Below.refl _ _))).mono ?_; rintro e w' ⟨rfl, hb⟩))
    have HBW := Lib.hid ((below_drew1 (Below.refl w2.heap.size w2)).trans hb)
    clear CF hb
    go_wp2_with fail
    go_loopw [49] (fun vk wr => vk = .int .i64 0 ∧ wr = w') (fun _ _ => 0)
    case atStart => exact ⟨rfl, rfl⟩
    case round =>
      obtain ⟨rfl, rfl⟩ := hrel
      go_wp2_with fail
      go_ret2
      refine ⟨_, rfl, Nat.le_refl _, ?_, HB2.out.trans (HBW.out.mono HB2.out.size)⟩
      rw [HBW.out.block _ hOs, HO.out, ← HREAD.out]
      rfl
  · have j1 : (frN p xs : Int) ≤ (nn : Int) := by omega
    have j2 : (nn : Int) ≤ (c : Int) := by omega
    generalize frN p xs = fr at *
    by_cases hcf : c = fr
    · have hfn : nn = fr := by omega
      have hz : skip p xs = [] := by
        rw [← HFS.out]
        exact List.drop_eq_nil_of_le (by have := HNN.out; omega)
      have d5 : decide ((0 : Int) < (nn : Int) - (fr : Int)) = false := by simp; omega
      rw [hz] at HREAD
      have HF := Lib.hid hfn
      clear hz hfn
      go_enter Try.func13, Try.ntmps13
      go_wp2_with fail
      refine (C1.out).mono ?_
      rintro e w1 ⟨rfl, rfl⟩
      go_wp2_with fail
      go_region_held3 (fun w' => Below w2.heap.size w2 w' ∧ w'.cell? ⟨D, 2, none⟩ = some (.slice (some ⟨L, 0, none⟩) nn c)) (first | exact ⟨below_drew1 (Below.refl _ _), q5⟩ | exact ⟨(below_drew1 (Below.refl _ _)).trans hb, (hb.cell (p := ⟨D, 2, none⟩) hDs).trans q5⟩) (first | (go_at_call 29; refine (CF.out _ (below_drew1 (Below.refl _ _))).mono ?_; rintro e w' ⟨rfl, hb⟩))
      have HBW := Lib.hid ((below_drew1 (Below.refl w2.heap.size w2)).trans hb)
      clear CF hb
      have hb3 := HB2.out.trans (HBW.out.mono HB2.out.size)
      have ho3 := (HBW.out.block _ hOs).trans HO.out
      have HB3 := Lib.hid hb3
      have HO3 := Lib.hid ho3
      clear hb3 ho3 HBW HO HB2
      go_wp2_with fail
      go_loopw [49] (fun vk wr => vk = .int .i64 0 ∧ wr = w') (fun _ _ => 0)
      case atStart => exact ⟨rfl, rfl⟩
      case round =>
        obtain ⟨rfl, rfl⟩ := hrel
        go_wp2_with fail
        go_ret2
        refine ⟨_, rfl, Nat.le_refl _, ?_, HB3.out⟩
        rw [HO3.out, ← HREAD.out]
        rfl
    · go_enter Try.func13, Try.ntmps13
      go_wp2_with fail
      refine (C1.out).mono ?_
      rintro e w1 ⟨rfl, rfl⟩
      go_wp2_with fail
      go_region_held3 (fun w' => Below w2.heap.size w2 w' ∧ w'.cell? ⟨D, 2, none⟩ = some (.slice (some ⟨L, 0, none⟩) nn c)) (first | exact ⟨below_drew1 (Below.refl _ _), q5⟩ | exact ⟨(below_drew1 (Below.refl _ _)).trans hb, (hb.cell (p := ⟨D, 2, none⟩) hDs).trans q5⟩) (first | (go_at_call 29; refine (CF.out _ (below_drew1 (Below.refl _ _))).mono ?_; rintro e w' ⟨rfl, hb⟩))
      have HBW := Lib.hid ((below_drew1 (Below.refl w2.heap.size w2)).trans hb)
      clear CF hb
      have hb3 := HB2.out.trans (HBW.out.mono HB2.out.size)
      have ho3 := (HBW.out.block _ hOs).trans HO.out
      have HB3 := Lib.hid hb3
      have HO3 := Lib.hid ho3
      clear hb3 ho3 HBW HO HB2
      go_wp2_with fail
      go_loopw [49] (fun vk wr => ∃ (k : Nat) (out : List Int), vk = .int .i64 (k : Int) ∧ k ≤ nn - fr ∧ out.length = m ∧ wr.heap[w1.heap.size]? = some (.cells (nums .u8 out).toArray 5 (0, 0)) ∧ Below w1.heap.size w1 wr ∧ rdL p out ((skip p xs).drop k) = bytesAt xs p m) (fun vk _ => nn - fr - (RowKit.intOf vk).toNat)
      case atStart => exact ⟨0, List.replicate m 0, rfl, Nat.zero_le _, by simp, HO3.out, HB3.out, HREAD.out⟩
      case round =>
        obtain ⟨k, out, rfl, hk, hlen, ho, hbw, hrd⟩ := hrel
        have HBR := Lib.hid hbw
        have HOR := Lib.hid ho
        clear hbw ho
        by_cases hlt : k < nn - fr
        · have d5 : decide ((k : Int) < (nn : Int) - (fr : Int)) = true := by simp; omega
          obtain ⟨x, hxi⟩ : ∃ x, xs[fr + k]? = some x := ⟨_, List.getElem?_eq_getElem (by have := HNN.out; omega)⟩
          have hdx : (skip p xs).drop k = x :: (skip p xs).drop (k + 1) := by
            obtain ⟨hb, he⟩ := List.getElem?_eq_some_iff.1 hxi
            rw [← HFS.out, List.drop_drop, List.drop_drop, List.drop_eq_getElem_cons hb, he]
            rfl
          rw [hdx, rdL, hlen] at hrd
          have hDr := HDW.out.below HBR.out
          obtain ⟨L', A, c', eL, hLs, q6, q7, hBR⟩ := hDr.piece hxi
          obtain rfl : L = L' := by injection eL with eL; injection eL
          rw [show (fr + k) * 2 = fr * 2 + k * 2 by omega] at q6 q7
          have HXE := Lib.hid (HX.out x (List.mem_of_getElem? hxi))
          have HBRX := Lib.hid hBR
          have HDX := Lib.hid hdx
          have HRD := Lib.hid hrd
          have HLEN := Lib.hid hlen
          clear hdx hrd hDr eL hBR hxi hlen
          by_cases hbr : p + m ≤ x.1
          · have d6 : decide ((p : Int) + (m : Int) ≤ (x.1 : Int)) = true := by simp; omega
            have hr : out = bytesAt xs p m := by
              have := HRD.out
              rwa [if_pos hbr] at this
            have HR := Lib.hid hr
            have HBX := Lib.hid (HBR.out.alloc (B := w1.heap.size) HBR.out.size (.cells #[.int .i64 (x.1 : Int), .slice A x.2.length c'] 41))
            clear hr
            go_wp2_with fail
            go_ret2
            refine ⟨_, rfl, Nat.le_refl _, ?_, HBX.out⟩
            rw [← HR.out]
            exact kept_below ((Below.refl _ wr).alloc (Nat.le_refl _) _) _ _ HOR.out
          · have d6 : decide ((p : Int) + (m : Int) ≤ (x.1 : Int)) = false := by simp; omega
            have hr : rdL p (layIn p out x) ((skip p xs).drop (k + 1)) = bytesAt xs p m := by
              have := HRD.out
              rwa [if_neg hbr] at this
            have HR := Lib.hid hr
            have HPE := Lib.hid (HSM.out x (List.mem_of_mem_drop (i := k) (by rw [HDX.out]; exact List.mem_cons_self)))
            have hbx : Below wr.heap.size wr (wr.alloc (.cells #[.int .i64 (x.1 : Int), .slice A x.2.length c'] 41)) := (Below.refl _ wr).alloc (Nat.le_refl _) _
            have hox := kept_below hbx _ _ HOR.out
            have hbry := HBRX.out.kept fun g cs fz hh => kept_below hbx _ _ hh
            have hos : w1.heap.size < wr.heap.size := (Array.getElem?_eq_some_iff.1 HOR.out).1
            have hll := layIn_length (p := p) (out := out) (x := x) (by have := HLEN.out; omega)
            have HLL := Lib.hid hll
            obtain ⟨wx, hwx⟩ : ∃ wx, wr.alloc (.cells #[.int .i64 (x.1 : Int), .slice A x.2.length c'] 41) = wx := ⟨_, rfl⟩
            rw [hwx] at hbx hox hbry
            have HBX := Lib.hid hbx
            have HOX := Lib.hid hox
            have HBRY := Lib.hid hbry
            clear hr hbx hll HRD HDX hox hbry
            have q8 : wx.cell? ⟨wr.heap.size, 0, none⟩ = some (.int .i64 (x.1 : Int)) := by rw [← hwx, Lib.cell_of_heap (heap_alloc_new wr _)]; rfl
            have q9 : wx.cell? ⟨wr.heap.size, 1, none⟩ = some (.slice A x.2.length c') := by rw [← hwx, Lib.cell_of_heap (heap_alloc_new wr _)]; rfl
            by_cases hge : p ≤ x.1
            · have d7 : decide ((p : Int) ≤ (x.1 : Int)) = true := by simp; omega
              obtain ⟨o, hoo⟩ : ∃ o, x.1 - p = o := ⟨_, rfl⟩
              have hoi : (x.1 : Int) - (p : Int) = (o : Int) := by omega
              have hmo : ¬ m = o := by omega
              have hw1 : IntKind.i64.wrap (o : Int) = (o : Int) := wrap_small _ (by omega) (by omega)
              have hw2 : IntKind.i64.wrap ((x.1 : Int) - (p : Int)) = (o : Int) := by rw [hoi, hw1]
              have i0 : (0 : Int) ≤ (o : Int) := by omega
              have i1 : (o : Int) ≤ (m : Int) := by omega
              obtain ⟨wc, z, hcp, hgc, hbel, hoth⟩ := run_cp wx.drew 29 3 Try.underlying29 w1.heap.size o A c' (m - o) out x.2 HBRY.out (by rw [HLEN.out]; omega) (by rw [HLEN.out]) HOX.out
              have q10 : wc.cell? ⟨wr.heap.size, 0, none⟩ = some (.int .i64 (x.1 : Int)) := (World.cell?_of_block (a := ⟨wr.heap.size, 0, none⟩) (hoth wr.heap.size (by omega))).trans q8
              have q11 : wc.cell? ⟨wr.heap.size, 1, none⟩ = some (.slice A x.2.length c') := (World.cell?_of_block (a := ⟨wr.heap.size, 1, none⟩) (hoth wr.heap.size (by omega))).trans q9
              have hlay : layIn p out x = cp out o x.2 := by
                unfold layIn
                rw [if_pos hge, hoo]
              have HLAY := Lib.hid hlay
              have HGC := Lib.hid hgc
              have HBEL := Lib.hid hbel
              clear hlay hgc hbel hoth
              go_wp2_with fail
              go_region_held3 (fun w' => w'.cell? ⟨wr.heap.size, 0, none⟩ = some (.int .i64 (x.1 : Int)) ∧ w'.cell? ⟨wr.heap.size, 1, none⟩ = some (.slice A x.2.length c')) (first | exact ⟨q8, q9⟩ | exact ⟨q10, q11⟩) (fail)
              have hb4 := HBEL.out w1 w1.heap.size ((HBR.out.trans (HBX.out.mono HBR.out.size)).trans (below_drew1 (Below.refl _ _))) (Nat.le_refl _)
              have HB4 := Lib.hid hb4
              clear hb4 HBEL
              go_wp2
              go_roundw
              case rel => exact ⟨k + 1, layIn p out x, by rw [Int.natCast_succ], hlt, by rw [HLL.out, HLEN.out], by rw [HLAY.out]; exact HGC.out, HB4.out, HR.out⟩
              case measure => simp only [RowKit.intOf, Int.toNat_natCast]; omega
            · have d7 : decide ((p : Int) ≤ (x.1 : Int)) = false := by simp; omega
              obtain ⟨o, hoo⟩ : ∃ o, p - x.1 = o := ⟨_, rfl⟩
              have hoi : (p : Int) - (x.1 : Int) = (o : Int) := by omega
              have hen : en x = x.1 + x.2.length := rfl
              have hol : o ≤ x.2.length := by have := HPE.out; omega
              have hmin : ¬ ((x.2.length : Int) < (o : Int)) := by omega
              have hlay : layIn p out x = cp out 0 (x.2.drop o) := by
                unfold layIn
                rw [if_neg hge, hoo, Nat.min_eq_left hol]
              by_cases hco : c' = o
              · subst hco
                have hnl : x.2.drop c' = [] := List.drop_eq_nil_of_le HBRX.out.1
                have i2 : (c' : Int) ≤ (x.2.length : Int) := by omega
                obtain ⟨wc, z, hcp, hgc, hbel, _⟩ := run_cp wx 29 3 Try.underlying29 w1.heap.size 0 A 0 m out (x.2.drop c') (by rw [hnl]; exact BR.nil _ _ _) (Nat.zero_le _) (by rw [HLEN.out, Nat.sub_zero]) HOX.out
                rw [List.length_drop] at hcp
                have hb4 := hbel w1 w1.heap.size (HBR.out.trans (HBX.out.mono HBR.out.size)) (Nat.le_refl _)
                have HB4 := Lib.hid hb4
                have HGC := Lib.hid hgc
                have HLAY := Lib.hid hlay
                clear hb4 hbel hgc hlay hnl hol hen
                go_wp2
                go_roundw
                case rel => exact ⟨k + 1, layIn p out x, by rw [Int.natCast_succ], hlt, by rw [HLL.out, HLEN.out], by rw [HLAY.out]; exact HGC.out, HB4.out, HR.out⟩
                case measure => simp only [RowKit.intOf, Int.toNat_natCast]; omega
              · have i2 : (o : Int) ≤ (c' : Int) := by have := HBRX.out.1; omega
                have i3 : (o : Int) ≤ (x.2.length : Int) := by omega
                obtain ⟨wc, z, hcp, hgc, hbel, _⟩ := run_cp wx 29 3 Try.underlying29 w1.heap.size 0 (A.map fun a => a.add o) (c' - o) m out (x.2.drop o) (HBRY.out.drop o hco) (Nat.zero_le _) (by rw [HLEN.out, Nat.sub_zero]) HOX.out
                rw [List.length_drop] at hcp
                have hb4 := hbel w1 w1.heap.size (HBR.out.trans (HBX.out.mono HBR.out.size)) (Nat.le_refl _)
                have HB4 := Lib.hid hb4
                have HGC := Lib.hid hgc
                have HLAY := Lib.hid hlay
                clear hb4 hbel hgc hlay hol hen
                go_wp2
                go_roundw
                case rel => exact ⟨k + 1, layIn p out x, by rw [Int.natCast_succ], hlt, by rw [HLL.out, HLEN.out], by rw [HLAY.out]; exact HGC.out, HB4.out, HR.out⟩
                case measure => simp only [RowKit.intOf, Int.toNat_natCast]; omega
        · have d5 : decide ((k : Int) < (nn : Int) - (fr : Int)) = false := by simp; omega
          have he : (skip p xs).drop k = [] := by
            rw [← HFS.out, List.drop_drop]
            exact List.drop_eq_nil_of_le (by have := HNN.out; omega)
          rw [he] at hrd
          have HRD := Lib.hid hrd
          clear hrd he
          go_wp2_with fail
          go_ret2
          refine ⟨_, rfl, Nat.le_refl _, ?_, HBR.out⟩
          rw [HOR.out, ← HRD.out]
          rfl
end Go.Proofs.Ytjochldpacgcgaa.U
