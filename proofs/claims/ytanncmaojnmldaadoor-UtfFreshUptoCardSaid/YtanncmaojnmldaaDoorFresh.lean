/- refectoryref00.Wide, Spoil, Left: a copy with room behind it; lists that are written over; what stayed. -/
import Derived.Test.YtanncmaojnmldaaDoorUput2
import Derived.Test.YtanncmaojnmldaaDoorLbase
import Derived.Laws.IdiomCopy
import Derived.Laws.CopyRow
set_option linter.unusedVariables false
set_option linter.unusedSimpArgs false
namespace Go.Proofs.YtanncmaojnmldaaDoor.U
open Go.RowKit Go.Proofs Go.Lib Go.Proofs.YtanncmaojnmldaaDoorW.PrintWords Go.Proofs.YtanncmaojnmldaaDoor.PR

theorem below_setRow {B g : Nat} {w0 w : World} (h : Below B w0 w) (hB : B ≤ g) (cs : Array Value) : Below B w0 (w.setRow g cs) :=
  ⟨h.os, h.tape, h.output, by have := h.size; show w0.heap.size ≤ (w.heap.modify g _).size; rw [Array.size_modify]; exact this, fun k hk => (setRow_other w g k cs (by omega)).trans (h.block k hk)⟩
/-- copy of bytes to the beginning of a block of the call's own. -/
theorem run_copy_bytes {P : Program} (w : World) (t ty : TypeId) (hu : P.underlying t = some (.slice 5)) (hs : (P.info? 5).map (·.size) = some 1) (g : Nat) (A : Option Addr) (c : Nat) (xs zs : List Int) (hR : Rd w A c xs) (hl : xs.length ≤ zs.length)
    (hg : w.heap[g]? = some (.cells (nums .u8 zs).toArray 5 (0, 0))) :
    ∃ w', (Builtin.copy_ #[t, t] ty #[.slice (some ⟨g, 0, none⟩) zs.length zs.length, .slice A xs.length c]).run P w = .ok (.int .i64 (xs.length : Int)) w' ∧ w'.heap[g]? = some (.cells (nums .u8 (xs ++ zs.drop xs.length)).toArray 5 (0, 0)) ∧
      ∀ (w0 : World) (B : Nat), Below B w0 w → B ≤ g → Below B w0 w' := by
  have hmin : Nat.min xs.length zs.length = xs.length := Nat.min_eq_left hl
  rcases Nat.eq_zero_or_pos xs.length with h0 | h0
  · have hx : xs = [] := List.eq_nil_of_length_eq_zero h0
    subst hx
    exact ⟨w, run_copy_none (P := P) w t t ty 5 _ A _ _ 0 c hu hs hmin, by simpa using hg, fun _ _ h _ => h⟩
  · obtain ⟨b, off, rfl, _, hc⟩ := hR.2.2.2 h0
    have hsrc : ∀ j v, (nums .u8 xs)[j]? = some v → w.cell? ((⟨b, off, none⟩ : Addr).add j) = some v := by
      intro j v hj
      have hjl : j < xs.length := by
        have := (List.getElem?_eq_some_iff.1 hj).1
        rwa [nums_length] at this
      have e : (⟨b, off, none⟩ : Addr).add j = ⟨b, off + j, none⟩ := by
        unfold Addr.add
        split
        · rename_i h; subst h; rfl
        · rfl
      rw [e, hc j hjl]
      have : (nums .u8 xs)[j]? = some (.int .u8 (xs.getD j 0)) := by
        unfold nums
        rw [List.getElem?_map, List.getElem?_eq_getElem hjl, List.getD_eq_getElem?_getD, List.getElem?_eq_getElem hjl]
        rfl
      rw [← hj, this]
    have h1 : ∀ u ∈ nums .u8 xs, u.oneCell' = true := by
      intro u hu
      obtain ⟨z, _, rfl⟩ := List.mem_map.1 hu
      rfl
    have hr := run_copy_row (P := P) w t t ty 5 g 0 zs.length zs.length ⟨b, off, none⟩ xs.length c (nums .u8 zs).toArray 5 (nums .u8 xs) hu hs hg (by rw [nums_length, hmin]) hsrc (by rw [nums_length]; simp [nums]; exact hl) h1
    rw [nums_length] at hr
    refine ⟨_, hr, ?_, fun w0 B hb hB => below_setRow hb hB _⟩
    rw [setRow_heap w g _ _ _ _ hg, nums_append, ← nums_drop]
    simp [nums_length]
theorem wpList_copy_bytes {P : Program} {w : World} {ops : Array Oper} {rest : List Oper} {o : Oper} {act : Act} {Q : Exit → Act → World → Prop} (hgd : o.guard = none) (d s : Operand) (t : TypeId)
    (ho : o.op = .call { callee := .builtin .copy, args := #[d, s], argTypes := #[t, t] }) (hu : P.underlying t = some (.slice 5)) (hs : (P.info? 5).map (·.size) = some 1) (g : Nat) (A : Option Addr) (n m c : Nat) (xs zs : List Int) (hR : Rd w A c xs) (hl : xs.length ≤ zs.length) (hn : zs.length = n) (hm : xs.length = m)
    (hg : w.heap[g]? = some (.cells (nums .u8 zs).toArray 5 (0, 0))) (hd : act.eval d = .slice (some ⟨g, 0, none⟩) n n) (hx : act.eval s = .slice A m c)
    (h : ∀ w', w'.heap[g]? = some (.cells (nums .u8 (xs ++ zs.drop xs.length)).toArray 5 (0, 0)) → (∀ (w0 : World) (B : Nat), Below B w0 w → B ≤ g → Below B w0 w') → wpList P ops Q rest (act.put o.dst (.int .i64 (m : Int))) w') : wpList P ops Q (o :: rest) act w := by
  refine wpList_plain hgd fun K hK => ?_
  subst hn hm
  obtain ⟨w', hr, h2, h3⟩ := run_copy_bytes (P := P) w t o.type hu hs g A c xs zs hR hl hg
  unfold Oper.wp execOp
  simp only [ho, resolve, invoke, builtin, Sem.run_bind, Sem.run_pure, Result.andThen_ok, List.map_toArray, List.map_cons, List.map_nil, hd, hx, hr]
  exact hK _ _ (h w' h2 h3)
theorem made_bytes (n : Nat) : madeCells #[Value.int .u8 0] n = (nums .u8 (List.replicate n 0)).toArray := by
  apply Array.ext
  · simp [madeCells, nums]
  · intro i h1 h2
    simp [madeCells, nums, Nat.mod_one]

/-- The row of Wide, k sevens in. -/
def sevens (xs : List Int) (k : Nat) : List Int := xs ++ (List.replicate k 7 ++ List.replicate (3 - k) 0)
theorem sevens_set (xs : List Int) (k : Nat) (h : k < 3) : (sevens xs k).set (xs.length + k) 7 = sevens xs (k + 1) := by
  unfold sevens
  match k, h with
  | 0, _ => simp
  | 1, _ => simp
  | 2, _ => simp
theorem sevens_len (xs : List Int) (k : Nat) (h : k ≤ 3) : (sevens xs k).length = xs.length + 3 := by
  unfold sevens
  simp
  omega
theorem nums_set (xs : List Int) (j : Nat) (x : Int) : (nums .u8 xs).set j (.int .u8 x) = nums .u8 (xs.set j x) := by simp [nums, List.map_set]
/-- A cell of a block of bytes. -/
theorem cell_bytes {w : World} {g : Nat} {cs : List Int} (h : w.heap[g]? = some (.cells (nums .u8 cs).toArray 5 (0, 0))) (j : Nat) (hj : j < cs.length) : w.cell? ⟨g, j, none⟩ = some (.int .u8 (cs.getD j 0)) := by
  rw [Lib.cell_of_heap h]
  simp [nums, hj]
theorem set_bytes {w : World} {g : Nat} {cs : List Int} (h : w.heap[g]? = some (.cells (nums .u8 cs).toArray 5 (0, 0))) (j : Nat) (x : Int) : (w.setCell ⟨g, j, none⟩ (.int .u8 x)).heap[g]? = some (.cells (nums .u8 (cs.set j x)).toArray 5 (0, 0)) := by
  simp only [World.setCell, Array.getElem?_modify, if_true, h, Option.map_some]
  rw [← nums_set]
  simp

set_option maxHeartbeats 4000000 in
set_option maxRecDepth 1000000 in
theorem Wide_calls (A : Option Addr) (c : Nat) (xs : List Int) (w : World) (hR : Rd w A c xs) (hs : xs.length ≤ 17592186044416) :
    Calls Tryd.prog 21 #[.slice A xs.length c] w fun e w' => e = .returned (.slice (some ⟨w.heap.size, 0, none⟩) xs.length (xs.length + 3)) ∧ w'.heap[w.heap.size]? = some (.cells (nums .u8 (xs ++ [7, 7, 7])).toArray 5 (0, 0)) ∧ Below w.heap.size w w' := by
  have hmk := print_make_int (P := Tryd.prog) 22 5 (.int .u8 0) 1 Tryd.underlying22 infoU8 rfl (by decide) ((xs.length : Int) + 3) (by omega) (by omega)
  rw [show ((xs.length : Int) + 3).toNat = xs.length + 3 by omega, made_bytes] at hmk
  have hR' : Rd (w.alloc (.cells (nums .u8 (List.replicate (xs.length + 3) 0)).toArray 5)) A c xs := hR.below ((Below.refl _ _).alloc (Nat.le_refl _) _)
  have hg := heap_alloc_new w (.cells (nums .u8 (List.replicate (xs.length + 3) 0)).toArray 5)
  obtain ⟨n, hn⟩ : ∃ n, xs.length = n := ⟨_, rfl⟩
  rw [hn] at hs hmk hR' hg ⊢
  have HR := Lib.hid hR'
  have HG := Lib.hid hg
  have HN := Lib.hid hn
  have hbu : (Tryd.prog.info? 5).map (·.size) = some 1 := by kernel_rfl
  clear hR' hg hn hR
  obtain ⟨w1, hcp, hg1, hb1⟩ := run_copy_bytes (P := Tryd.prog) _ 22 3 Tryd.underlying22 hbu w.heap.size A c xs (List.replicate (n + 3) 0) HR.out (by rw [List.length_replicate]; have := HN.out; omega) HG.out
  rw [List.length_replicate, HN.out] at hcp
  have hB1 := hb1 w w.heap.size ((Below.refl _ _).alloc (Nat.le_refl _) _) (Nat.le_refl _)
  have hs0 : xs ++ (List.replicate (n + 3) 0).drop xs.length = sevens xs 0 := by
    unfold sevens
    rw [HN.out, List.drop_replicate, show n + 3 - n = 3 by omega]
    rfl
  rw [hs0] at hg1
  have HG1 := Lib.hid hg1
  have HB1 := Lib.hid hB1
  clear hg1 hb1 hB1 hs0
  go_enter Tryd.func21, Tryd.ntmps21
  go_wp2
  go_loopw [5] (fun i wr => ∃ k : Nat, k ≤ 3 ∧ i = .int .i64 ((n + k : Nat) : Int) ∧ wr.heap[w.heap.size]? = some (.cells (nums .u8 (sevens xs k)).toArray 5 (0, 0)) ∧ Below w.heap.size w wr) (fun i _ => n + 3 - (RowKit.intOf i).toNat)
  case atStart => exact ⟨0, by omega, rfl, HG1.out, HB1.out⟩
  case round =>
    clear HG1 HB1
    obtain ⟨k, hk, rfl, hg, hB⟩ := hrel
    by_cases h3 : k < 3
    · have c0 := cell_bytes hg (n + k) (by rw [sevens_len _ _ hk, HN.out]; omega)
      have f0 : wr.frozen? ⟨w.heap.size, n + k, none⟩ = false := Lib.frozen_of_heap hg _
      have hst := set_bytes hg (n + k) 7
      have hss := sevens_set xs k h3
      rw [HN.out] at hss
      rw [hss] at hst
      have HS := Lib.hid hst
      have HB := Lib.hid (hB.setCell (p := ⟨w.heap.size, n + k, none⟩) (Nat.le_refl _) (.int .u8 7))
      have d0 : decide (((n + k : Nat) : Int) < ((n + 3 : Nat) : Int)) = true := by simp; omega
      clear hst hss hg hB
      go_wp2
      go_roundw
      case rel => exact ⟨k + 1, by omega, by go_num, HS.out, HB.out⟩
      case measure => simp [RowKit.intOf]; omega
    · obtain rfl : k = 3 := by omega
      have e : sevens xs 3 = xs ++ [7, 7, 7] := rfl
      rw [e] at hg
      have HG := Lib.hid hg
      clear hg
      go_wp2
      go_ret
      exact ⟨rfl, HG.out, hB⟩

theorem Bv_bytes {w : World} {g : Nat} {cs xs : List Int} (c : Nat) (h : w.heap[g]? = some (.cells (nums .u8 cs).toArray 5 (0, 0))) (hl : xs.length ≤ cs.length) (hx : cs.take xs.length = xs) (hc : xs.length ≤ c) (hm : xs.length ≤ 9223372036854775807) : Bv w (.slice (some ⟨g, 0, none⟩) xs.length c) xs := by
  refine ⟨_, c, rfl, hc, ?_⟩
  refine Kd.C_of_reads (d := (0 : Int)) (h1 := fun _ => rfl) ⟨rfl, hm, fun h0 => ⟨⟨g, 0, none⟩, rfl, fun j hj => ?_⟩⟩
  have e : (⟨g, 0, none⟩ : Addr).add j = ⟨g, j, none⟩ := by
    unfold Addr.add
    split
    · rename_i h; subst h; rfl
    · rw [Nat.zero_add]
  rw [e, cell_bytes h j (by omega)]
  congr 2
  rw [← hx, List.getD_eq_getElem?_getD, List.getD_eq_getElem?_getD, List.getElem?_take, if_pos hj]

set_option maxHeartbeats 4000000 in
set_option maxRecDepth 1000000 in
theorem Left_calls (g : Nat) (v : Value) (xs : List Int) (w : World) (hg : w.heap[g]? = some (.cells (nums .u8 (xs ++ [7, 7, 7])).toArray 5 (0, 0))) (hb : Bv w v xs) (hs : xs.length ≤ 17592186044416) :
    Calls Tryd.prog 23 #[.slice (some ⟨g, 0, none⟩) xs.length (xs.length + 3), v] w fun e w' => e = .returned (.bool true) ∧ Below w.heap.size w w' := by
  have hv1 := Bv_bytes (xs := xs) (xs.length + 3) hg (by simp) (by simp) (by omega) (by omega)
  have cS := Same_calls hv1 hb (by omega)
  rw [decide_eq_true rfl] at cS
  obtain ⟨A, c, rfl, hl, _⟩ := hb
  obtain ⟨n, hn⟩ : ∃ n, xs.length = n := ⟨_, rfl⟩
  have hcell : ∀ k, k < 3 → w.cell? ⟨g, n + k, none⟩ = some (.int .u8 7) := by
    intro k hk
    rw [cell_bytes hg (n + k) (by simp; omega), ← hn]
    congr 2
    match k, hk with
    | 0, _ => simp
    | 1, _ => simp
    | 2, _ => simp
  rw [hn] at cS hl ⊢
  have hlt : g < w.heap.size := (Array.getElem?_eq_some_iff.1 hg).1
  have CS := Lib.hid cS
  have HC := Lib.hid hcell
  rw [hn] at hs
  clear cS hcell hg hv1
  go_enter Tryd.func23, Tryd.ntmps23
  go_wp2_with fail
  refine (CS.out).mono ?_
  rintro e w1 ⟨rfl, hb1⟩
  have k0 : w1.cell? ⟨g, n, none⟩ = some (.int .u8 7) := (hb1.cell (p := ⟨g, n, none⟩) hlt).trans (HC.out 0 (by omega))
  have k1 : w1.cell? ⟨g, n + 1, none⟩ = some (.int .u8 7) := (hb1.cell (p := ⟨g, n + 1, none⟩) hlt).trans (HC.out 1 (by omega))
  have k2 : w1.cell? ⟨g, n + 2, none⟩ = some (.int .u8 7) := (hb1.cell (p := ⟨g, n + 2, none⟩) hlt).trans (HC.out 2 (by omega))
  have HB := Lib.hid hb1
  clear hb1 CS HC
  go_wp2
  repeat (go_quiet (fail); try go_wp2)
  go_ret
  exact ⟨rfl, HB.out⟩

set_option maxHeartbeats 4000000 in
set_option maxRecDepth 1000000 in
theorem Spoil_calls (B : Nat) (v : Value) (by_ : Int) (xs : List Int) (w : World) (hown : w.ownsRow B 5 1 v xs.length (nums .u8 xs)) (hU : AllU8 w v) (hB : B ≤ w.heap.size) :
    Calls Tryd.prog 22 #[v, .int .u8 by_] w fun e w' => e = .returned (.tuple #[]) ∧ Below B w w' := by
  rcases hown.2 with ⟨rfl, _⟩ | ⟨g, cap, cur, rfl, hbg, hg, hnc, hcm, hcs, _⟩
  · clear hown hU
    go_enter Tryd.func22, Tryd.ntmps22
    go_wp2
    go_loopw [4] (fun i wr => i = .int .i64 0 ∧ Below B w wr) (fun _ _ => 0)
    case atStart => exact ⟨rfl, Below.refl _ _⟩
    case round =>
      obtain ⟨rfl, hb⟩ := hrel
      go_wp2
      go_end0
      exact ⟨rfl, hb⟩
  · obtain ⟨cs, hc⟩ := hU g rfl
    have hcl : cs.length = cap := by
      rw [hg] at hc
      injection hc with hc
      injection hc with hc _ _
      rw [hc] at hcs
      simpa [nums] using hcs
    have HC := Lib.hid hc
    have hmx : cap ≤ 9223372036854775807 := by unfold maxLen at hcm; omega
    clear hown hU hg hcs hcm hc
    generalize xs.length = n at *
    go_enter Tryd.func22, Tryd.ntmps22
    go_wp2
    go_loopw [4] (fun i wr => ∃ (k : Nat) (ds : List Int), k ≤ cap ∧ ds.length = cap ∧ i = .int .i64 (k : Int) ∧ wr.heap[g]? = some (.cells (nums .u8 ds).toArray 5 (0, 0)) ∧ Below B w wr) (fun i _ => cap - (RowKit.intOf i).toNat)
    case atStart => exact ⟨0, cs, by omega, hcl, rfl, HC.out, Below.refl _ _⟩
    case round =>
      clear HC hcl
      obtain ⟨k, ds, hk, hdl, rfl, hg, hb⟩ := hrel
      by_cases h : k < cap
      · have c0 := cell_bytes hg k (by omega)
        have f0 : wr.frozen? ⟨g, k, none⟩ = false := Lib.frozen_of_heap hg _
        have hst := fun x => set_bytes hg k x
        have hbs := fun x => hb.setCell (p := ⟨g, k, none⟩) hbg x
        have HS := Lib.hid hst
        have HB := Lib.hid hbs
        have d0 : decide ((k : Int) < (cap : Int)) = true := by simp; omega
        clear hst hbs hg hb
        generalize ds.getD k 0 = z at *
        go_wp2
        refine ⟨⟨k + 1, _, by omega, by rw [List.length_set]; exact hdl, by go_num, HS.out _, HB.out _⟩, ?_⟩
        simp only [RowKit.intOf, Int.toNat_natCast]
        omega
      · have d0 : decide ((k : Int) < (cap : Int)) = false := by simp; omega
        have HB := Lib.hid hb
        clear hg hb
        go_wp2
        go_end0
        exact ⟨rfl, HB.out⟩
end Go.Proofs.YtanncmaojnmldaaDoor.U
