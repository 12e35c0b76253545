/- The law CacheFresh: what is handed in stays, the room behind it, too; what is answered is new memory. -/
import Derived.Test.YtbnkiefchbcfgaaClawk
set_option linter.unusedVariables false
set_option linter.unusedSimpArgs false
namespace Go.Proofs.Ytbnkiefchbcfgaa.U
open Go.RowKit Go.Proofs Go.Lib Go.Proofs.YtbnkiefchbcfgaaW.PrintWords

section
variable {w w' : World} {N : Nat → Prop} {base C R n : Nat} {s : St}
/-- A block that is new belongs to none of them. -/
theorem PX.also {N' : Nat → Prop} (h : PX w N base C R s s) (g : Good s n) (hb : Below w.heap.size w w') (hN : ∀ k, N' k → w.heap.size ≤ k ∧ k < w'.heap.size) : PX w' N' base C R s s := by
  obtain ⟨lA, c, oA, oc, B, Z, vB, vZ, rA, rc, h⟩ := h
  have hx0 : ∀ x ∈ s.xs, 0 < x.2.length := fun x hx => (g.fit.ok.mem x hx).2
  have ho0 : ∀ x ∈ s.os, 0 < x.2.length := fun x hx => (g.wi x hx).1
  have hal : ∀ k, (vB.ownBlock = some k ∨ N' k) → (vB.ownBlock = some k ∨ N k) ∨ w.heap.size ≤ k := fun k hk => by
    rcases hk with hk | hk
    · exact .inl (.inl hk)
    · exact .inr (hN k hk).1
  refine ⟨lA, c, oA, oc, B, Z, vB, vZ, rA, rc, ⟨⟨⟨kept_below hb _ _ h.c.d.head, (h.c.d.known.also hx0 hal).below hb, (h.c.d.opn.also ho0 hal).below hb, h.c.d.apart⟩, fun k hk => ?_⟩, ⟨⟨kept_below hb _ _ h.r.r.head, own_below h.r.r.rb hb, own_below h.r.r.rz hb, (h.r.r.opn.also ho0 hal).below hb, h.r.r.bL⟩, h.r.rel, fun k hk => (hN k hk).2⟩, fun k hk e => ?_, h.bC, h.bL, h.bO, h.bR, h.ap1, h.ap2⟩⟩
  · rcases hk with hk | hk
    · exact Nat.lt_of_lt_of_le (h.c.new k (.inl hk)) hb.size
    · exact (hN k hk).2
  · have := h.c.new k (.inl e)
    have := (hN k hk).1
    omega
/-- Both stand when a row of bytes is written that belongs to none of them. -/
theorem PX.spoil {V : Nat} {ds : Array Value} {fz : Nat × Nat} (h : PX w N base C R s s) (g : Good s n) (hV : w.heap[V]? = some (.cells ds 5 fz)) (hNV : N V) (hg : w.grownBy w' (some V)) : PX w' N base C R s s := by
  obtain ⟨lA, c, oA, oc, B, Z, vB, vZ, rA, rc, h⟩ := h
  have hx0 : ∀ x ∈ s.xs, 0 < x.2.length := fun x hx => (g.fit.ok.mem x hx).2
  have ho0 : ∀ x ∈ s.os, 0 < x.2.length := fun x hx => (g.wi x hx).1
  have hk : ∀ (k : Nat) (ob : Obj), w.heap[k]? = some ob → k ≠ V → w'.heap[k]? = some ob := fun k ob hh hne => by
    rw [hg.block k (Array.getElem?_eq_some_iff.1 hh).1 (fun e => hne (by injection e))]
    exact hh
  have hty : ∀ (k : Nat) (cs : Array Value) (t : TypeId) (f : Nat × Nat), w.heap[k]? = some (.cells cs t f) → t ≠ 5 → w'.heap[k]? = some (.cells cs t f) := fun k cs t f hh hne => hk k _ hh (Ne.symm (ne_block hV hh (Ne.symm hne)))
  have hO : ∀ {oA : Option Addr} {oc : Nat} {M : Nat → Prop} {os : List Ext}, OpenAt w M oA oc os → ∀ O o, oA = some ⟨O, o, none⟩ → w'.heap[O]? = w.heap[O]? := fun ho O o e => by
    obtain ⟨_, cs, hh⟩ := ho.at_ e
    rw [hh]
    exact hty _ _ _ _ hh (by decide)
  have hu : ∀ (g : Nat) (cs : Array Value) (f : Nat × Nat), w.heap[g]? = some (Obj.cells cs 5 f) → ¬ (vB.ownBlock = some g ∨ N g) → w'.heap[g]? = some (Obj.cells cs 5 f) := fun g cs f hh hn => hk g _ hh (fun e => hn (.inr (by rw [e]; exact hNV)))
  refine ⟨lA, c, oA, oc, B, Z, vB, vZ, rA, rc, ⟨⟨⟨hty _ _ _ _ h.c.d.head (by decide), h.c.d.known.apart hx0 (fun L o e => ?_) hu, h.c.d.opn.apart ho0 (hO h.c.d.opn) hu, h.c.d.apart⟩, fun k hk => Nat.lt_of_lt_of_le (h.c.new k hk) hg.size⟩, ⟨⟨hty _ _ _ _ h.r.r.head (by decide), own_stay h.r.r.rb fun k hk' => ?_, own_stay h.r.r.rz fun k hk' => ?_, h.r.r.opn.apart ho0 (hO h.r.r.opn) hu, h.r.r.bL⟩, h.r.rel, fun k hk => Nat.lt_of_lt_of_le (h.r.new k hk) hg.size⟩, h.nb, h.bC, h.bL, h.bO, h.bR, h.ap1, h.ap2⟩⟩
  · obtain ⟨_, _, cs, hh⟩ := h.c.d.known.at_ e
    rw [hh]
    exact hty _ _ _ _ hh (by decide)
  · obtain ⟨cs, hc⟩ := own_type h.r.r.rb k hk'
    rw [hc]
    exact hk _ _ hc (fun e => h.nb V hNV (by rw [← e]; exact hk'))
  · obtain ⟨cs, hc⟩ := own_type h.r.r.rz k hk'
    rw [hc]
    exact hty _ _ _ _ hc (by decide)
end
/-- What may be written over: the bytes of the pieces that were answered. -/
def Spo (w : World) (base : Nat) (A : Option Addr) (xs : List Ext) : Prop :=
  ∀ (j : Nat) (x : Ext), xs[j]? = some x → ∃ L cs g ds ca, A = some ⟨L, 0, none⟩ ∧ w.heap[L]? = some (.cells cs 32 (0, 0)) ∧ cs[j * 2 + 1]? = some (.slice (some ⟨g, 0, none⟩) x.2.length ca) ∧ base ≤ g ∧ w.heap[g]? = some (.cells (nums .u8 ds).toArray 5 (0, 0)) ∧ ds.length = ca ∧ x.2.length ≤ ca ∧ ca ≤ 9223372036854775807
theorem Spo.next {w w' : World} {base g0 ca : Nat} {A : Option Addr} {xs : List Ext} {ds ds' : List Int} (h : Spo w base A xs) (h0 : w.heap[g0]? = some (.cells (nums .u8 ds).toArray 5 (0, 0))) (hl : ds.length = ca) (hg : w.grownBy w' (some g0)) (h1 : w'.heap[g0]? = some (.cells (nums .u8 ds').toArray 5 (0, 0))) (hl' : ds'.length = ca) : Spo w' base A xs := by
  have hk : ∀ (k : Nat) (ob : Obj), w.heap[k]? = some ob → k ≠ g0 → w'.heap[k]? = some ob := fun k ob hh hne => by
    rw [hg.block k (Array.getElem?_eq_some_iff.1 hh).1 (fun e => hne (by injection e))]
    exact hh
  intro j x hj
  obtain ⟨L, cs, g, ks, cb, e, hL, hc, hb, hgb, hlen, hnc, hm⟩ := h j x hj
  have hLg := hk _ _ hL (Ne.symm (ne_block h0 hL (by decide)))
  by_cases hgg : g = g0
  · subst hgg
    rw [h0] at hgb
    injection hgb with hgb
    injection hgb with hgb _ _
    have : ds.length = ks.length := by
      have := congrArg Array.size hgb
      simpa [nums] using this
    exact ⟨L, cs, g, ds', cb, e, hLg, hc, hb, h1, by omega, hnc, hm⟩
  · exact ⟨L, cs, g, ks, cb, e, hLg, hc, hb, hk _ _ hgb hgg, hlen, hnc, hm⟩
theorem NewU.spo {w : World} {base n c : Nat} {A : Option Addr} {xs : List Ext} (h : NewU w base (.slice A n c) xs) : Spo w base A xs := by
  obtain ⟨l, h1, h2, h3, h4, h5⟩ := h
  intro j x hj
  obtain ⟨A', ca, q1, q2, _, _⟩ := h2 j x hj
  obtain ⟨g, ds, rfl, r1, r2, r3, r4, r5⟩ := h5 A' x.2.length ca (by rw [List.getElem?_toArray] at q2; exact List.mem_of_getElem? q2)
  rcases h1.2 with ⟨e, h0⟩ | ⟨L, c', sp, e, hL, _⟩
  · obtain rfl : xs = [] := List.eq_nil_of_length_eq_zero h0
    simp at hj
  · injection e with e1 _ _
    subst e1
    refine ⟨L, _, g, ds, ca, rfl, hL, ?_, r1, r2, r3, r4, r5⟩
    rw [List.getElem?_toArray] at q2 ⊢
    rw [List.getElem?_append_left (List.getElem?_eq_some_iff.1 q2).1]
    exact q2
theorem run_more (V n m : Nat) (h : n ≤ m) (h0 : 0 < m) (W : World) :
    (Instr.slice 22 (.slice (some ⟨V, 0, none⟩) n m) none (some (.int .i64 (m : Int))) none).run Try.prog W = .ok (.slice (some ⟨V, 0, none⟩) m m) W := by
  obtain ⟨i0, hi0, hz0, hz1, hz2⟩ := info_parts infoU8
  have he : Try.prog.elem 22 = 5 := by kernel_rfl
  rw [run_slice_h W 22 (some ⟨V, 0, none⟩) n m (by rw [he]; exact Try.underlying22) .i64 (m : Int) (by omega) (by omega), he]
  have h1 : ¬ m = 0 := by omega
  simp [sizeOf, typeInfo, hi0, hz1, sliced, h1, Addr.add]
theorem sevens_ba {w : World} {V n m : Nat} {bs : List Int} (hn : bs.length = n) (hm : n + 3 = m) (hW : w.heap[V]? = some (.cells (nums .u8 (bs ++ [7, 7, 7])).toArray 5 (0, 0))) : BA w (some ⟨V, 0, none⟩) m bs := by
  have hbr : BR w (some ⟨V, 0, none⟩) m bs := ⟨by omega, fun _ => ⟨V, 0, _, (0, 0), rfl, hW, fun j b hj => by
    rw [Nat.zero_add, List.getElem?_toArray]
    unfold nums
    rw [List.getElem?_map, List.getElem?_append_left (List.getElem?_eq_some_iff.1 hj).1, hj]
    rfl⟩⟩
  exact hbr.ba
set_option maxHeartbeats 4000000 in
set_option maxRecDepth 1000000 in
theorem Left_calls (V n m : Nat) (A : Option Addr) (c : Nat) (bs : List Int) (w : World) (hW : w.heap[V]? = some (.cells (nums .u8 (bs ++ [7, 7, 7])).toArray 5 (0, 0))) (hn : bs.length = n) (hm : n + 3 = m) (hl : n ≤ 140737488351232) (hA : BA w A c bs) :
    Calls Try.prog 31 #[.slice (some ⟨V, 0, none⟩) n m, .slice A n c] w fun e w' => e = .returned (.bool true) ∧ Below w.heap.size w w' := by
  have cS := Same_eq (some ⟨V, 0, none⟩) A m c bs w (sevens_ba hn hm hW) hA (by omega)
  rw [hn] at cS
  have hlt : V < w.heap.size := (Array.getElem?_eq_some_iff.1 hW).1
  have hc : ∀ j : Nat, j < 3 → w.cell? ⟨V, n + j, none⟩ = some (.int .u8 7) := fun j hj => by
    rw [Lib.cell_of_heap hW, List.getElem?_toArray]
    unfold nums
    rw [List.getElem?_map, List.getElem?_append_right (by omega), show n + j - bs.length = j by omega]
    match j, hj with
    | 0, _ => rfl
    | 1, _ => rfl
    | 2, _ => rfl
  have q0 := hc 0 (by decide)
  have q1 := hc 1 (by decide)
  have q2 := hc 2 (by decide)
  rw [Nat.add_zero] at q0
  have CS := Lib.hid cS
  have hsl := fun W => run_more V n m (by omega) (by omega) W
  rw [show (m : Int) = (n : Int) + 3 by omega] at hsl
  have d1 : decide ((m : Int) < (n : Int) + 3) = false := by simp; omega
  have i0 : (n : Int) < (m : Int) := by omega
  have i1 : (n : Int) + 1 < (m : Int) := by omega
  have i2 : (n : Int) + 2 < (m : Int) := by omega
  clear hW hA cS hc hn hm
  have hKS : ∀ w', Below w.heap.size w w' → w'.cell? ⟨V, n, none⟩ = some (.int .u8 7) ∧ w'.cell? ⟨V, n + 1, none⟩ = some (.int .u8 7) ∧ w'.cell? ⟨V, n + 2, none⟩ = some (.int .u8 7) := fun w' hb =>
    ⟨(hb.cell (p := ⟨V, n, none⟩) hlt).trans q0, (hb.cell (p := ⟨V, n + 1, none⟩) hlt).trans q1, (hb.cell (p := ⟨V, n + 2, none⟩) hlt).trans q2⟩
  have KS := Lib.hid hKS
  clear hKS q0 q1 q2
  go_enter Try.func31, Try.ntmps31
  go_wp2_with fail
  refine (CS.out).mono ?_
  rintro e w1 ⟨rfl, hb⟩
  obtain ⟨q0, q1, q2⟩ := KS.out _ hb
  have HB := Lib.hid hb
  clear hb CS KS
  go_wp2_with fail
  go_ret
  exact ⟨rfl, HB.out⟩
theorem stFi_len {s : St} {n : Nat} (g : Good s n) : (stFi s).2.1.length ≤ 1000000000 := by
  cases ho : s.os with
  | nil => unfold stFi; rw [ho]; exact Nat.zero_le _
  | cons x t =>
    unfold stFi
    rw [ho]
    have hx := g.wi x (by rw [ho]; exact List.mem_cons_self)
    have ex : en x = x.1 + x.2.length := rfl
    have := g.small
    show x.2.length ≤ 1000000000
    omega
section
variable {w w' : World} {N : Nat → Prop} {base C R n : Nat} {s : St}
theorem PP (h : PX w N base C R s s) (g : Good s n) :
    Calls Try.prog 23 #[.pointer (some ⟨C, 0, none⟩)] w fun e w' => ∃ v, e = .returned v ∧ NewU w' w.heap.size v s.xs ∧ Below w.heap.size w w' := by
  obtain ⟨lA, c, oA, oc, B, Z, vB, vZ, rA, rc, h⟩ := h
  exact TP h.c g
end
set_option maxHeartbeats 8000000 in
set_option maxRecDepth 1000000 in
theorem CacheFresh_bad (lvl : Nat) (size : Int) (A : Option Addr) (c k : Nat) (p : Int) (b : Value) (w : World) (hbad : NBad lvl size) :
    Calls Try.prog 9 #[.int .u8 (lvl : Int), .int .i64 size, .slice A k c, .int .i64 p, b] w fun e w' => e = .returned (.bool true) ∧ Below w.heap.size w w' := by
  have C1 := Lib.hid (played_bad lvl size A k c w hbad)
  clear hbad
  go_enter Try.func9, Try.ntmps9
  go_wp2_with fail
  refine (C1.out).mono ?_
  rintro e w1 ⟨rfl, hb1⟩
  have HB1 := Lib.hid hb1
  clear hb1 C1
  go_wp2_with fail
  refine (works_calls _).mono ?_
  rintro e w10 ⟨rfl, hb10⟩
  go_wp2
  go_ret
  exact ⟨rfl, HB1.out.trans (hb10.mono HB1.out.size)⟩
set_option maxHeartbeats 16000000 in
set_option maxRecDepth 1000000 in
theorem CacheFresh_walk (lvl : Nat) (size : Int) (A : Option Addr) (c : Nat) (l : List ActV) (p : Int) (Ab : Option Addr) (cb : Nat) (bs : List Int) (w : World) (h : AR w A l) (hl : l.length ≤ 140737488351232) (hb : BA w Ab cb bs) (hbl : bs.length ≤ 140737488351232) :
    Calls Try.prog 9 #[.int .u8 (lvl : Int), .int .i64 size, .slice A l.length c, .int .i64 p, .slice Ab bs.length cb] w fun e w' => e = .returned (.bool true) ∧ Below w.heap.size w w' := by
  by_cases hbad : NBad lvl size
  · exact CacheFresh_bad lvl size A c l.length p _ w hbad
  · obtain ⟨a, b, ha, rfl, hlv, hsz⟩ := NBad.not hbad (by omega)
    obtain rfl : lvl = a := by omega
    have C1 := Lib.hid (played_calls lvl b A c l w hlv hsz h (by omega))
    have HBA := Lib.hid hb
    obtain ⟨n, hn⟩ : ∃ n, bs.length = n := ⟨_, rfl⟩
    have HNB := Lib.hid hn
    rw [hn] at hbl ⊢
    clear h hl hbad ha hb hn
    go_enter Try.func9, Try.ntmps9
    go_wp2_with fail
    refine (C1.out).mono ?_
    rintro e w1 ⟨C, R, rfl, s, gs, hps, hb1⟩
    have cW := Wide_calls Ab cb bs w1 (HBA.out.keep hb1) (by rw [HNB.out]; omega)
    rw [HNB.out] at cW
    have C2 := Lib.hid cW
    have HP1 := Lib.hid hps
    have HG := Lib.hid gs
    have HB1 := Lib.hid hb1
    clear hps gs hb1 cW C1
    go_wp2_with fail
    refine (C2.out).mono ?_
    rintro e w2 ⟨rfl, hrow2, hb2⟩
    have hV2 : w1.heap.size < w2.heap.size := (Array.getElem?_eq_some_iff.1 hrow2).1
    have hp2 : PX w2 (fun k => k = w1.heap.size) w.heap.size C R s s := HP1.out.also HG.out hb2 (fun k hk => by subst hk; exact ⟨Nat.le_refl _, hV2⟩)
    have hbV : w.heap.size ≤ w1.heap.size := HB1.out.size
    have hb12 := HB1.out.trans (hb2.mono hbV)
    obtain ⟨V, hV⟩ : ∃ V, w1.heap.size = V := ⟨_, rfl⟩
    obtain ⟨m, hm⟩ : ∃ m, n + 3 = m := ⟨_, rfl⟩
    rw [hV] at hrow2 hp2 hV2 hbV ⊢
    rw [hm]
    have av2 : Arg w2 (fun k => k = V) w.heap.size (some ⟨V, 0, none⟩) m bs := ⟨sevens_ba HNB.out hm hrow2, fun _ g o e => by
      injection e with e
      injection e with e
      exact .inr ⟨e.symm, _, _, by rw [← e]; exact hrow2⟩⟩
    have ab2 : Arg w2 (fun k => k = V) w.heap.size Ab cb bs := arg_of HBA.out hb12 (Nat.le_refl _)
    have cw3 := PW hp2 HG.out (by decide) hb12.size p av2
    rw [HNB.out] at cw3
    have C3 := Lib.hid cw3
    have HM := Lib.hid hm
    have HA2 := Lib.hid (And.intro ab2 (And.intro hrow2 hb12))
    clear hrow2 hp2 hb2 hb12 av2 ab2 cw3 C2 HP1 HB1 HBA hV hm
    -- Write, to both
    go_wp2_with fail
    refine (C3.out).mono ?_
    rintro e w3 ⟨rfl, hm3, av3⟩
    have ab3 := hm3.2.2.2.1 _ _ _ HA2.out.1
    have row3 := hm3.2.2.2.2 V _ _ rfl HA2.out.2.1
    have hb3 := HA2.out.2.2.trans hm3.2.1
    have cw4 := PRW hm3.1 (HG.out.w p bs) (HG.out.mono (Nat.le_succ _)) (by decide) hb3.size p ab3
    rw [HNB.out] at cw4
    have C4 := Lib.hid cw4
    have HA3 := Lib.hid (And.intro av3 (And.intro row3 hb3))
    clear hm3 av3 ab3 row3 hb3 cw4 C3 HA2
    go_wp2_with fail
    refine (C4.out).mono ?_
    rintro e w4 ⟨rfl, hm4, ab4⟩
    obtain ⟨s1, hs1⟩ : ∃ s1, (stW s p bs).2 = s1 := ⟨_, rfl⟩
    have g1 := HG.out.w p bs
    rw [hs1] at hm4 g1
    have av4 := hm4.2.2.2.1 _ _ _ HA3.out.1
    have row4 := hm4.2.2.2.2 V _ _ rfl HA3.out.2.1
    have hb4 := HA3.out.2.2.trans hm4.2.1
    have cw5 := PF hm4.1 g1 (by decide) hb4.size 0 av4
    rw [HNB.out] at cw5
    have C5 := Lib.hid cw5
    have HG1 := Lib.hid g1
    have HA4 := Lib.hid (And.intro ab4 (And.intro row4 hb4))
    clear hm4 av4 ab4 row4 hb4 cw5 C4 HA3 g1 hs1 HG
    -- Fill, to both
    go_wp2_with fail
    refine (C5.out).mono ?_
    rintro e w5 ⟨rfl, hm5, av5⟩
    have ab5 := hm5.2.2.2.1 _ _ _ HA4.out.1
    have row5 := hm5.2.2.2.2 V _ _ rfl HA4.out.2.1
    have hb5 := HA4.out.2.2.trans hm5.2.1
    have cw6 := PRF hm5.1 (HG1.out.f 0 bs) HG1.out (by decide) hb5.size 0 ab5
    rw [HNB.out] at cw6
    have C6 := Lib.hid cw6
    have HA5 := Lib.hid (And.intro row5 hb5)
    clear hm5 av5 ab5 row5 hb5 cw6 C5 HA4
    go_wp2_with fail
    refine (C6.out).mono ?_
    rintro e w6 ⟨rfl, hm6, ab6⟩
    obtain ⟨s2, hs2⟩ : ∃ s2, (stF s1 0 bs).2 = s2 := ⟨_, rfl⟩
    have g2 := HG1.out.f 0 bs
    rw [hs2] at hm6 g2
    have row6 := hm6.2.2.2.2 V _ _ rfl HA5.out.1
    have hb6 := HA5.out.2.trans hm6.2.1
    have C7 := Lib.hid (Left_calls V n m Ab cb bs w6 row6 HNB.out HM.out hbl ab6.1)
    have HG2 := Lib.hid g2
    have HP6 := Lib.hid hm6.1
    have HR6 := Lib.hid (And.intro row6 hb6)
    clear hm6 ab6 row6 hb6 C6 HA5 g2 hs2 HG1
    go_wp2_with fail
    refine (C7.out).mono ?_
    rintro e w7 ⟨rfl, hb7⟩
    have row7 := kept_below hb7 _ _ HR6.out.1
    have hml := HM.out
    have C8 := Lib.hid (Spoil_calls V n m 1 _ w7 row7 (by rw [List.length_append, HNB.out]; exact hml) (by omega) (by omega))
    have HP7 := Lib.hid (HP6.out.below hb7)
    have HR7 := Lib.hid (And.intro row7 (HR6.out.2.trans (hb7.mono HR6.out.2.size)))
    clear hb7 row7 C7 HR6 HP6 hml
    -- what was handed in is written over
    go_wp2_with fail
    refine (C8.out).mono ?_
    rintro e w8 ⟨rfl, hg8, _⟩
    have hp8 := HP7.out.spoil HG2.out HR7.out.1 rfl hg8
    have hb8 := HR7.out.2.grown hg8 HR7.out.2.size (fun k hk => by injection hk with hk; omega)
    have C9 := Lib.hid (PFi hp8 HG2.out)
    have HP8 := Lib.hid hp8
    have HB8 := Lib.hid hb8
    clear hg8 hp8 hb8 C8 HR7 HP7
    -- First
    go_wp2_with fail
    refine (C9.out).mono ?_
    rintro e w9 ⟨A9, c9, rfl, ha9⟩
    have C10 := Lib.hid (Spoil_ow 1 ha9.2.1)
    have HB9 := Lib.hid ha9.2.2.2
    clear ha9 C9
    go_wp2_with fail
    refine (C10.out).mono ?_
    rintro e w10 ⟨rfl, hg10, hge10⟩
    have hb10 := HB9.out.grown hg10 HB9.out.size hge10
    have C11 := Lib.hid (PP (HP8.out.below hb10) HG2.out)
    have HB10 := Lib.hid hb10
    clear hg10 hge10 hb10 C10 HB9
    -- the pieces
    go_wp2_with fail
    refine (C11.out).mono ?_
    rintro e w11 ⟨v11, rfl, hx11, hb11⟩
    obtain ⟨A11, c11, rfl⟩ := hx11.length
    have HS11 := Lib.hid hx11.spo
    have HB11 := Lib.hid hb11
    have hxl : s2.xs.length ≤ 1000000000 := by have := ok_len' HG2.out.fit.ok HG2.out.fit.top; have := HG2.out.small; omega
    obtain ⟨nx, hnx⟩ : ∃ nx, s2.xs.length = nx := ⟨_, rfl⟩
    rw [hnx] at hxl ⊢
    have HNX := Lib.hid hnx
    have hcx : nx ≤ c11 := by
      obtain ⟨l8, h1, _⟩ := hx11
      rcases h1.2 with ⟨e, h0⟩ | ⟨L, c', sp, e, hL, hnc, _⟩
      · injection e with _ _ e3
        omega
      · injection e with _ _ e3
        omega
    clear hx11 hb11 C11 hnx
    go_wp2_with fail
    go_loopw [19] (fun vi wr => ∃ i : Nat, vi = .int .i64 (i : Int) ∧ i ≤ nx ∧ Spo wr w10.heap.size A11 s2.xs ∧ Below w10.heap.size w10 wr) (fun vi _ => nx - (RowKit.intOf vi).toNat)
    case atStart => exact ⟨0, rfl, Nat.zero_le _, HS11.out, HB11.out⟩
    case round =>
      clear HS11 HB11
      obtain ⟨i, rfl, hi, hsp, hbr⟩ := hrel
      by_cases hin : i < nx
      · have d0 : decide ((i : Int) < (nx : Int)) = true := by simp; omega
        obtain ⟨x, hxi⟩ : ∃ x, s2.xs[i]? = some x := ⟨_, List.getElem?_eq_getElem (by have := HNX.out; omega)⟩
        obtain ⟨L, cs, g, ds, ca, rfl, hL, hc, hg, hgb, hlen, hnc, hm⟩ := hsp i x hxi
        have q1 : wr.cell? ⟨L, i * 2 + 1, none⟩ = some (.slice (some ⟨g, 0, none⟩) x.2.length ca) := by rw [Lib.cell_of_heap hL]; exact hc
        have CX := Lib.hid (Spoil_calls g x.2.length ca 1 ds wr hgb hlen hnc hm)
        have HSP := Lib.hid hsp
        have HBR := Lib.hid hbr
        have HGB := Lib.hid hgb
        clear hxi hL hc hgb hsp hbr
        go_wp2_with fail
        refine (CX.out).mono ?_
        rintro e wn ⟨rfl, hgn, ds', hd', hl'⟩
        have HS2 := Lib.hid (HSP.out.next HGB.out hlen hgn hd' hl')
        have HB2 := Lib.hid (HBR.out.grown hgn HBR.out.size (fun k hk => by injection hk with hk; omega))
        clear hgn hd' CX HSP HBR HGB
        go_wp2_with fail
        go_roundw
        case rel => exact ⟨i + 1, by rw [Int.natCast_succ], hin, HS2.out, HB2.out⟩
        case measure => simp only [RowKit.intOf, Int.toNat_natCast]; omega
      · have d0 : decide ((i : Int) < (nx : Int)) = false := by simp; omega
        have hbw := HB10.out.trans (hbr.mono HB10.out.size)
        have C12 := Lib.hid (PR_ (HP8.out.below hbw) HG2.out 0 3)
        have HBW := Lib.hid hbw
        clear hsp hbr hbw HB10
        -- Read
        go_wp2_with fail
        refine (C12.out).mono ?_
        rintro e w12 ⟨A12, c12, rfl, ha12⟩
        have C13 := Lib.hid (Spoil_ow 1 ha12.2.1)
        have HB12 := Lib.hid ha12.2.2.2
        clear ha12 C12
        go_wp2_with fail
        refine (C13.out).mono ?_
        rintro e w13 ⟨rfl, hg13, hge13⟩
        have hb13 := HBW.out.trans ((HB12.out.grown hg13 HB12.out.size hge13).mono HBW.out.size)
        have hp13 := HP8.out.below hb13
        have c14 := PFi hp13 HG2.out
        have HPF := Lib.hid (fun W (hW : Below w13.heap.size w13 W) => PRFi (hp13.below hW))
        have hfl := stFi_len HG2.out
        obtain ⟨fa, hfa⟩ : ∃ a, (stFi s2).1 = a := ⟨_, rfl⟩
        obtain ⟨fb, hfb⟩ : ∃ a, (stFi s2).2.1 = a := ⟨_, rfl⟩
        obtain ⟨fc, hfc⟩ : ∃ a, (stFi s2).2.2 = a := ⟨_, rfl⟩
        rw [hfa, hfb, hfc] at c14
        rw [hfa, hfb, hfc] at HPF
        rw [hfb] at hfl
        have C14 := Lib.hid c14
        have HP13 := Lib.hid hp13
        have HB13 := Lib.hid (HB8.out.trans (hb13.mono HB8.out.size))
        clear hg13 hge13 hb13 hp13 c14 C13 HBW HB12 hfa hfb hfc
        go_wp2_with fail
        refine (C14.out).mono ?_
        rintro e w14 ⟨A14, c14, rfl, ha14⟩
        have C15 := Lib.hid (HPF.out w14 ha14.2.2.2)
        have HA14 := Lib.hid ha14
        clear ha14 C14
        go_wp2_with fail
        refine (C15.out).mono ?_
        rintro e w15 ⟨A15, c15, rfl, ha15, hb15⟩
        have hb1315 := HA14.out.2.2.2.trans (hb15.mono HA14.out.2.2.2.size)
        have C16 := Lib.hid (same_calls (HP13.out.below hb1315) HG2.out)
        have HX15 := Lib.hid (And.intro ha15 (And.intro (HA14.out.1.ba.keep hb15) (HB13.out.trans (hb1315.mono HB13.out.size))))
        clear ha15 hb15 hb1315 C15 HA14
        go_wp2_with fail
        refine (C16.out).mono ?_
        rintro e w16 ⟨rfl, hb16⟩
        have C17 := Lib.hid (Same_eq A14 A15 c14 c15 fb w16 (HX15.out.2.1.keep hb16) (HX15.out.1.keep hb16) (Nat.le_trans hfl (by decide)))
        have HB16 := Lib.hid (HX15.out.2.2.trans (hb16.mono HX15.out.2.2.size))
        clear hb16 C16
        go_wp2_with fail
        refine (C17.out).mono ?_
        rintro e w17 ⟨rfl, hb17⟩
        have HB17 := Lib.hid (HB16.out.trans (hb17.mono HB16.out.size))
        clear hb17 C17
        go_wp2_with fail
        refine (works_calls _).mono ?_
        rintro e w18 ⟨rfl, hb18⟩
        go_wp2
        go_ret
        exact ⟨rfl, HB17.out.trans (hb18.mono HB17.out.size)⟩
end Go.Proofs.Ytbnkiefchbcfgaa.U
