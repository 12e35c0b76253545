/- cache: two caches that stand alike; acts, the first 60, on both. -/
import Derived.Test.YtbnkiefchbcfgaaCact
set_option linter.unusedVariables false
set_option linter.unusedSimpArgs false
namespace Go.Proofs.Ytbnkiefchbcfgaa.U
open Go.RowKit Go.Proofs Go.Lib Go.Proofs.YtbnkiefchbcfgaaW.PrintWords Go.Proofs.Ytbnkiefchbcfgaa.PR
variable {w : World} {N : Nat → Prop} {base C R n : Nat} {s : St}

set_option maxHeartbeats 16000000 in
set_option maxRecDepth 1000000 in
theorem same_calls (h : PX w N base C R s s) (g : Good s n) :
    Calls Try.prog 34 #[.pointer (some ⟨C, 0, none⟩), .pointer (some ⟨R, 0, none⟩)] w fun e w' => e = .returned (.bool true) ∧ Below w.heap.size w w' := by
  obtain ⟨lA, c, oA, oc, B, Z, vB, vZ, rA, rc, h⟩ := h
  obtain ⟨AB, cB, rfl, _, _⟩ := own_slice_form h.r.r.rb
  have hbd := below_drew1 (Below.refl w.heap.size w)
  have hd := h.below hbd
  have q0 := hd.r.r.c0
  have q1 := hd.r.r.c1
  have q3 := hd.r.r.c3
  rw [h.r.rel.bl] at q1
  have hRl := hd.r.r.lt
  have hsz := hd.r.rel.bl
  have C1 := Lib.hid (Level_calls hd.c.d)
  have C2 := Lib.hid (Size_calls hd.c.d)
  have C3 := Lib.hid (Open_calls hd.c.d)
  have C4 := Lib.hid (TP hd.c g)
  have C5 := Lib.hid (fun W (hW : Below w.drew.heap.size w.drew W) => TRP (hd.r.below hW) g)
  have hxl : s.xs.length ≤ 1000000000 := by have := ok_len' g.fit.ok g.fit.top; have := g.small; omega
  have hxb : ∀ x ∈ s.xs, x.2.length ≤ 1000000000 := fun x hx => by
    have := g.fit.top x hx
    have ex : en x = x.1 + x.2.length := rfl
    have := g.small
    omega
  have HXB := Lib.hid (And.intro hxl hxb)
  generalize s.os.length = on at *
  have hKS : ∀ w', Below w.drew.heap.size w.drew w' → w'.cell? ⟨R, 0, none⟩ = some (.int .u8 (s.lvl : Int)) ∧ w'.cell? ⟨R, 1, none⟩ = some (.slice AB s.size cB) ∧ w'.cell? ⟨R, 3, none⟩ = some (.slice rA on rc) := fun w' hb =>
    ⟨(hb.cell (p := ⟨R, 0, none⟩) hRl).trans q0, (hb.cell (p := ⟨R, 1, none⟩) hRl).trans q1, (hb.cell (p := ⟨R, 3, none⟩) hRl).trans q3⟩
  have KS := Lib.hid hKS
  have hS0 := hKS _ (Below.refl _ _)
  clear h hd hKS hxl hxb g hsz hbd
  go_enter Try.func34, Try.ntmps34
  go_wp2_with fail
  refine AnyL.start (fun w' => w'.cell? ⟨R, 0, none⟩ = some (.int .u8 (s.lvl : Int)) ∧ w'.cell? ⟨R, 1, none⟩ = some (.slice AB s.size cB) ∧ w'.cell? ⟨R, 3, none⟩ = some (.slice rA on rc)) 99 (by kernel_rfl) hS0 (fun hHeld => ?_)
  refine AnyL.take (i := 0) (v := ?vy0) rfl (by kernel_rfl) (by kernel_rfl) (by kernel_rfl) (by kernel_rfl) (fun _ _ _ h => h) (by assumption) (Or.inl ⟨by rfl, ?y0⟩) ?ry0
  case y0 => (intro w hSw; (try dsimp only at hSw); go_simp; try with_reducible rfl)
  try simp only [Act.put, List.setIfInBounds_toArray, List.set_cons_zero, List.set_cons_succ]
  refine AnyL.take (i := 2) (v := ?vy2) rfl (by kernel_rfl) (by kernel_rfl) (by kernel_rfl) (by kernel_rfl) (fun _ _ _ h => h) (by assumption) (Or.inl ⟨by rfl, ?y2⟩) ?ry2
  case y2 => (intro w hSw; (try dsimp only at hSw); go_simp; try with_reducible rfl)
  try simp only [Act.put, List.setIfInBounds_toArray, List.set_cons_zero, List.set_cons_succ]
  refine AnyL.take (i := 3) (v := ?vy3) rfl (by kernel_rfl) (by kernel_rfl) (by kernel_rfl) (by kernel_rfl) (fun _ _ _ h => h) (by assumption) (Or.inl ⟨by rfl, ?y3⟩) ?ry3
  case y3 => (intro w hSw; (try dsimp only at hSw); go_simp; try with_reducible rfl)
  try simp only [Act.put, List.setIfInBounds_toArray, List.set_cons_zero, List.set_cons_succ]
  refine AnyL.take (i := 4) (v := ?vy4) rfl (by kernel_rfl) (by kernel_rfl) (by kernel_rfl) (by kernel_rfl) (fun _ _ _ h => h) (by assumption) (Or.inl ⟨by rfl, ?y4⟩) ?ry4
  case y4 => (intro w hSw; (try dsimp only at hSw); go_simp; try with_reducible rfl)
  try simp only [Act.put, List.setIfInBounds_toArray, List.set_cons_zero, List.set_cons_succ]
  refine AnyL.take (i := 5) (v := ?vy5) rfl (by kernel_rfl) (by kernel_rfl) (by kernel_rfl) (by kernel_rfl) (fun _ _ _ h => h) (by assumption) (Or.inl ⟨by rfl, ?y5⟩) ?ry5
  case y5 => (intro w hSw; (try dsimp only at hSw); go_simp; try with_reducible rfl)
  try simp only [Act.put, List.setIfInBounds_toArray, List.set_cons_zero, List.set_cons_succ]
  refine AnyL.one (i := 1) (by kernel_rfl) rfl (fun K hK => ?_)
  go_simp
  refine (C1.out).mono ?_
  rintro e w5 ⟨rfl, rfl⟩
  refine hK.out _ _ (.inr hHeld) ?_
  clear hK K
  try simp only [Act.put, List.setIfInBounds_toArray, List.set_cons_zero, List.set_cons_succ]
  refine AnyL.take (i := 6) (v := ?vy6) rfl (by kernel_rfl) (by kernel_rfl) (by kernel_rfl) (by kernel_rfl) (fun _ _ _ h => h) (by assumption) (Or.inl ⟨by rfl, ?y6⟩) ?ry6
  case y6 => (intro w hSw; (try dsimp only at hSw); go_simp; try with_reducible rfl)
  try simp only [Act.put, List.setIfInBounds_toArray, List.set_cons_zero, List.set_cons_succ]
  refine AnyL.take (i := 7) (v := ?vy7) rfl (by kernel_rfl) (by kernel_rfl) (by kernel_rfl) (by kernel_rfl) (fun _ _ _ h => h) (by assumption) (Or.inl ⟨by rfl, ?y7⟩) ?ry7
  case y7 => (intro w hSw; (try dsimp only at hSw); go_simp; try with_reducible rfl)
  try simp only [Act.put, List.setIfInBounds_toArray, List.set_cons_zero, List.set_cons_succ]
  refine AnyL.take (i := 8) (v := ?vy8) rfl (by kernel_rfl) (by kernel_rfl) (by kernel_rfl) (by kernel_rfl) (fun _ _ _ h => h) (by assumption) (Or.inl ⟨by rfl, ?y8⟩) ?ry8
  case y8 => (intro w hSw; (try dsimp only at hSw); go_simp; try with_reducible rfl)
  try simp only [Act.put, List.setIfInBounds_toArray, List.set_cons_zero, List.set_cons_succ]
  refine AnyL.take (i := 10) (v := ?vy10) rfl (by kernel_rfl) (by kernel_rfl) (by kernel_rfl) (by kernel_rfl) (fun _ _ _ h => h) (by assumption) (Or.inl ⟨by rfl, ?y10⟩) ?ry10
  case y10 => (intro w hSw; (try dsimp only at hSw); go_simp; try with_reducible rfl)
  try simp only [Act.put, List.setIfInBounds_toArray, List.set_cons_zero, List.set_cons_succ]
  refine AnyL.take (i := 11) (v := ?vy11) rfl (by kernel_rfl) (by kernel_rfl) (by kernel_rfl) (by kernel_rfl) (fun _ _ _ h => h) (by assumption) (Or.inl ⟨by rfl, ?y11⟩) ?ry11
  case y11 => (intro w hSw; (try dsimp only at hSw); go_simp; try with_reducible rfl)
  try simp only [Act.put, List.setIfInBounds_toArray, List.set_cons_zero, List.set_cons_succ]
  refine AnyL.take (i := 12) (v := ?vy12) rfl (by kernel_rfl) (by kernel_rfl) (by kernel_rfl) (by kernel_rfl) (fun _ _ _ h => h) (by assumption) (Or.inl ⟨by rfl, ?y12⟩) ?ry12
  case y12 => (intro w hSw; (try dsimp only at hSw); go_simp; try with_reducible rfl)
  try simp only [Act.put, List.setIfInBounds_toArray, List.set_cons_zero, List.set_cons_succ]
  refine AnyL.take (i := 13) (v := ?vy13) rfl (by kernel_rfl) (by kernel_rfl) (by kernel_rfl) (by kernel_rfl) (fun _ _ _ h => h) (by assumption) (Or.inl ⟨by rfl, ?y13⟩) ?ry13
  case y13 => (intro w hSw; (try dsimp only at hSw); go_simp; try with_reducible rfl)
  try simp only [Act.put, List.setIfInBounds_toArray, List.set_cons_zero, List.set_cons_succ]
  refine AnyL.take (i := 14) (v := ?vy14) rfl (by kernel_rfl) (by kernel_rfl) (by kernel_rfl) (by kernel_rfl) (fun _ _ _ h => h) (by assumption) (Or.inl ⟨by rfl, ?y14⟩) ?ry14
  case y14 => (intro w hSw; (try dsimp only at hSw); go_simp; try with_reducible rfl)
  try simp only [Act.put, List.setIfInBounds_toArray, List.set_cons_zero, List.set_cons_succ]
  refine AnyL.one (i := 9) (by kernel_rfl) rfl (fun K hK => ?_)
  go_simp
  refine (C2.out).mono ?_
  rintro e w5 ⟨rfl, rfl⟩
  refine hK.out _ _ (.inr hHeld) ?_
  clear hK K
  try simp only [Act.put, List.setIfInBounds_toArray, List.set_cons_zero, List.set_cons_succ]
  refine AnyL.take (i := 15) (v := ?vy15) rfl (by kernel_rfl) (by kernel_rfl) (by kernel_rfl) (by kernel_rfl) (fun _ _ _ h => h) (by assumption) (Or.inl ⟨by rfl, ?y15⟩) ?ry15
  case y15 => (intro w hSw; (try dsimp only at hSw); go_simp; try with_reducible rfl)
  try simp only [Act.put, List.setIfInBounds_toArray, List.set_cons_zero, List.set_cons_succ]
  refine AnyL.take (i := 16) (v := ?vy16) rfl (by kernel_rfl) (by kernel_rfl) (by kernel_rfl) (by kernel_rfl) (fun _ _ _ h => h) (by assumption) (Or.inl ⟨by rfl, ?y16⟩) ?ry16
  case y16 => (intro w hSw; (try dsimp only at hSw); go_simp; try with_reducible rfl)
  try simp only [Act.put, List.setIfInBounds_toArray, List.set_cons_zero, List.set_cons_succ]
  refine AnyL.take (i := 17) (v := ?vy17) rfl (by kernel_rfl) (by kernel_rfl) (by kernel_rfl) (by kernel_rfl) (fun _ _ _ h => h) (by assumption) (Or.inl ⟨by rfl, ?y17⟩) ?ry17
  case y17 => (intro w hSw; (try dsimp only at hSw); go_simp; try with_reducible rfl)
  try simp only [Act.put, List.setIfInBounds_toArray, List.set_cons_zero, List.set_cons_succ]
  refine AnyL.take (i := 18) (v := ?vy18) rfl (by kernel_rfl) (by kernel_rfl) (by kernel_rfl) (by kernel_rfl) (fun _ _ _ h => h) (by assumption) (Or.inl ⟨by rfl, ?y18⟩) ?ry18
  case y18 => (intro w hSw; (try dsimp only at hSw); go_simp; try with_reducible rfl)
  try simp only [Act.put, List.setIfInBounds_toArray, List.set_cons_zero, List.set_cons_succ]
  refine AnyL.take (i := 20) (v := ?vy20) rfl (by kernel_rfl) (by kernel_rfl) (by kernel_rfl) (by kernel_rfl) (fun _ _ _ h => h) (by assumption) (Or.inl ⟨by rfl, ?y20⟩) ?ry20
  case y20 => (intro w hSw; (try dsimp only at hSw); go_simp; try with_reducible rfl)
  try simp only [Act.put, List.setIfInBounds_toArray, List.set_cons_zero, List.set_cons_succ]
  refine AnyL.take (i := 21) (v := ?vy21) rfl (by kernel_rfl) (by kernel_rfl) (by kernel_rfl) (by kernel_rfl) (fun _ _ _ h => h) (by assumption) (Or.inl ⟨by rfl, ?y21⟩) ?ry21
  case y21 => (intro w hSw; (try dsimp only at hSw); go_simp; try with_reducible rfl)
  try simp only [Act.put, List.setIfInBounds_toArray, List.set_cons_zero, List.set_cons_succ]
  refine AnyL.take (i := 22) (v := ?vy22) rfl (by kernel_rfl) (by kernel_rfl) (by kernel_rfl) (by kernel_rfl) (fun _ _ _ h => h) (by assumption) (Or.inl ⟨by rfl, ?y22⟩) ?ry22
  case y22 => (intro w hSw; (try dsimp only at hSw); go_simp; try with_reducible rfl)
  try simp only [Act.put, List.setIfInBounds_toArray, List.set_cons_zero, List.set_cons_succ]
  refine AnyL.take (i := 23) (v := ?vy23) rfl (by kernel_rfl) (by kernel_rfl) (by kernel_rfl) (by kernel_rfl) (fun _ _ _ h => h) (by assumption) (Or.inl ⟨by rfl, ?y23⟩) ?ry23
  case y23 => (intro w hSw; (try dsimp only at hSw); go_simp; try with_reducible rfl)
  try simp only [Act.put, List.setIfInBounds_toArray, List.set_cons_zero, List.set_cons_succ]
  refine AnyL.take (i := 24) (v := ?vy24) rfl (by kernel_rfl) (by kernel_rfl) (by kernel_rfl) (by kernel_rfl) (fun _ _ _ h => h) (by assumption) (Or.inl ⟨by rfl, ?y24⟩) ?ry24
  case y24 => (intro w hSw; (try dsimp only at hSw); go_simp; try with_reducible rfl)
  try simp only [Act.put, List.setIfInBounds_toArray, List.set_cons_zero, List.set_cons_succ]
  refine AnyL.one (i := 19) (by kernel_rfl) rfl (fun K hK => ?_)
  go_simp
  refine (C3.out).mono ?_
  rintro e w5 ⟨rfl, rfl⟩
  refine hK.out _ _ (.inr hHeld) ?_
  clear hK K
  try simp only [Act.put, List.setIfInBounds_toArray, List.set_cons_zero, List.set_cons_succ]
  refine AnyL.take (i := 25) (v := ?vy25) rfl (by kernel_rfl) (by kernel_rfl) (by kernel_rfl) (by kernel_rfl) (fun _ _ _ h => h) (by assumption) (Or.inl ⟨by rfl, ?y25⟩) ?ry25
  case y25 => (intro w hSw; (try dsimp only at hSw); go_simp; try with_reducible rfl)
  try simp only [Act.put, List.setIfInBounds_toArray, List.set_cons_zero, List.set_cons_succ]
  refine AnyL.take (i := 26) (v := ?vy26) rfl (by kernel_rfl) (by kernel_rfl) (by kernel_rfl) (by kernel_rfl) (fun _ _ _ h => h) (by assumption) (Or.inl ⟨by rfl, ?y26⟩) ?ry26
  case y26 => (intro w hSw; (try dsimp only at hSw); go_simp; try with_reducible rfl)
  try simp only [Act.put, List.setIfInBounds_toArray, List.set_cons_zero, List.set_cons_succ]
  refine AnyL.take (i := 27) (v := ?vy27) rfl (by kernel_rfl) (by kernel_rfl) (by kernel_rfl) (by kernel_rfl) (fun _ _ _ h => h) (by assumption) (Or.inl ⟨by rfl, ?y27⟩) ?ry27
  case y27 => (intro w hSw; (try dsimp only at hSw); go_simp; try with_reducible rfl)
  try simp only [Act.put, List.setIfInBounds_toArray, List.set_cons_zero, List.set_cons_succ]
  refine AnyL.take (i := 28) (v := ?vy28) rfl (by kernel_rfl) (by kernel_rfl) (by kernel_rfl) (by kernel_rfl) (fun _ _ _ h => h) (by assumption) (Or.inl ⟨by rfl, ?y28⟩) ?ry28
  case y28 => (intro w hSw; (try dsimp only at hSw); go_simp; try with_reducible rfl)
  try simp only [Act.put, List.setIfInBounds_toArray, List.set_cons_zero, List.set_cons_succ]
  refine AnyL.take (i := 30) (v := ?vy30) rfl (by kernel_rfl) (by kernel_rfl) (by kernel_rfl) (by kernel_rfl) (fun _ _ _ h => h) (by assumption) (Or.inl ⟨by rfl, ?y30⟩) ?ry30
  case y30 => (intro w hSw; (try dsimp only at hSw); go_simp; try with_reducible rfl)
  try simp only [Act.put, List.setIfInBounds_toArray, List.set_cons_zero, List.set_cons_succ]
  refine AnyL.one (i := 29) (by kernel_rfl) rfl (fun K hK => ?_)
  go_simp
  refine (C4.out).mono ?_
  rintro e w5 ⟨v5, rfl, hn5, hb5⟩
  refine hK.out _ _ (.inr (KS.out _ hb5)) ?_
  clear hHeld hK K
  have hHeld := KS.out _ hb5
  try simp only [Act.put, List.setIfInBounds_toArray, List.set_cons_zero, List.set_cons_succ]
  refine AnyL.one (i := 31) (by kernel_rfl) rfl (fun K hK => ?_)
  go_simp
  refine (C5.out _ hb5).mono ?_
  rintro e w6 ⟨v6, rfl, hn6, hb6⟩
  have hb56 := hb5.trans (hb6.mono hb5.size)
  refine hK.out _ _ (.inr (KS.out _ hb56)) ?_
  clear hHeld hK K
  have hHeld := KS.out _ hb56
  try simp only [Act.put, List.setIfInBounds_toArray, List.set_cons_zero, List.set_cons_succ]
  refine AnyL.one (i := 32) (by kernel_rfl) rfl (fun K hK => ?_)
  go_simp
  refine (Ext_same _ _ v5 v6 s.xs w6 (hn5.toX.below hb6) hn6 HXB.out.1 HXB.out.2).mono ?_
  rintro e w7 ⟨rfl, hb7⟩
  have hb567 := hb56.trans (hb7.mono hb56.size)
  refine hK.out _ _ (.inr (KS.out _ hb567)) ?_
  clear hHeld hK K
  have hHeld := KS.out _ hb567
  try simp only [Act.put, List.setIfInBounds_toArray, List.set_cons_zero, List.set_cons_succ]
  refine AnyL.take (i := 33) (v := ?vz33) rfl (by kernel_rfl) (by kernel_rfl) (by kernel_rfl) (by kernel_rfl) (fun _ _ _ h => h) (by assumption) (Or.inl ⟨by rfl, ?z33⟩) ?rz33
  case z33 => (intro w hSw; (try dsimp only at hSw); go_simp; try with_reducible rfl)
  try simp only [Act.put, List.setIfInBounds_toArray, List.set_cons_zero, List.set_cons_succ]
  refine AnyL.take (i := 34) (v := ?vz34) rfl (by kernel_rfl) (by kernel_rfl) (by kernel_rfl) (by kernel_rfl) (fun _ _ _ h => h) (by assumption) (Or.inl ⟨by rfl, ?z34⟩) ?rz34
  case z34 => (intro w hSw; (try dsimp only at hSw); go_simp; try with_reducible rfl)
  try simp only [Act.put, List.setIfInBounds_toArray, List.set_cons_zero, List.set_cons_succ]
  refine AnyL.done (by kernel_rfl) ?_ _
  have HB7 := Lib.hid ((below_drew1 (Below.refl w.heap.size w)).trans hb567)
  clear hHeld hb5 hb6 hb7 hb56 hb567 hn5 hn6 KS hS0 C1 C2 C3 C4 C5
  go_wp2_with fail
  go_ret
  exact ⟨rfl, HB7.out⟩
structure ActV where
  d : Int
  p : Int
  n : Int
  A : Option Addr
  bs : List Int
  ca : Nat
  l : Nat
/-- A row of acts that is read. -/
def AR (w : World) (A : Option Addr) (l : List ActV) : Prop :=
  0 < l.length → ∃ g o, A = some ⟨g, o, none⟩ ∧ g < w.heap.size ∧ ∀ j a, l[j]? = some a →
    w.cell? ⟨g, o + j * 5, none⟩ = some (.int .i64 a.d) ∧ w.cell? ⟨g, o + j * 5 + 1, none⟩ = some (.int .i64 a.p) ∧ w.cell? ⟨g, o + j * 5 + 2, none⟩ = some (.int .i64 a.n) ∧ w.cell? ⟨g, o + j * 5 + 3, none⟩ = some (.slice a.A a.bs.length a.ca) ∧ w.cell? ⟨g, o + j * 5 + 4, none⟩ = some (.int .u8 (a.l : Int)) ∧
      BA w a.A a.ca a.bs
/-- What is handed in lies ahead of the two. -/
theorem arg_of {w w' : World} {A : Option Addr} {ca : Nat} {bs : List Int} (h : BA w A ca bs) (hb : Below base w w') (hB : w.heap.size ≤ base) : Arg w' N base A ca bs := by
  refine ⟨⟨h.1, fun h0 => ?_⟩, fun h0 g o e => ?_⟩
  · obtain ⟨g2, o2, e2, hg2, hc2⟩ := h.2 h0
    refine ⟨g2, o2, e2, Nat.lt_of_lt_of_le hg2 hb.size, fun j u hj => ?_⟩
    rw [← hc2 j u hj, Addr.add_lit]
    exact hb.cell (p := ⟨g2, o2 + j, none⟩) (show g2 < base by omega)
  · obtain ⟨g2, o2, e2, hg2, _⟩ := h.2 h0
    rw [e2] at e
    injection e with e
    injection e with e
    exact .inl (by omega)
theorem NBad.not {lvl size : Int} (h : ¬ NBad lvl size) (h0 : 0 ≤ lvl) : ∃ a b : Nat, lvl = (a : Int) ∧ size = (b : Int) ∧ a ≤ 3 ∧ b ≤ 65536 := by
  unfold NBad at h
  exact ⟨lvl.toNat, size.toNat, by omega, by omega, by omega, by omega⟩
set_option maxHeartbeats 4000000 in
set_option maxRecDepth 1000000 in
theorem played_bad (lvl size : Int) (A : Option Addr) (k c : Nat) (w : World) (h : NBad lvl size) :
    Calls Try.prog 21 #[.int .u8 lvl, .int .i64 size, .slice A k c] w fun e w' => e = .returned (.tuple #[.pointer none, .pointer none, .bool true]) ∧ Below w.heap.size w w' := by
  have C1 := Lib.hid (New_bad lvl size w h)
  have C2 := Lib.hid (Rnew_bad lvl size w h)
  clear h
  go_enter Try.func21, Try.ntmps21
  go_wp2_with fail
  refine (C1.out).mono ?_
  rintro e w1 ⟨rfl, rfl⟩
  go_wp2_with fail
  refine (C2.out).mono ?_
  rintro e w2 ⟨rfl, rfl⟩
  go_wp2_with fail
  go_ret3
  exact ⟨rfl, Below.refl _ _⟩
/-- Behind played: both, alike, and nothing else has changed. -/
def PlP (w : World) (C R : Nat) (w' : World) : Prop := ∃ s, Good s 60 ∧ PX w' (fun _ => False) w.heap.size C R s s ∧ Below w.heap.size w w'
theorem PX.start {w1 w2 : World} {lvl size D : Nat} {vB vZ : Value} (h1 : CacheAt w1 N D lvl size [] [] none 0 none 0) (h2 : RefC w2 (fun _ => False) D w1.heap.size lvl (List.replicate size 0) (List.replicate size false) [] vB vZ none 0) (hb : Below w1.heap.size w1 w2) (hD : D ≤ w1.heap.size) :
    PX w2 (fun _ => False) D D w1.heap.size ⟨lvl, size, [], []⟩ ⟨lvl, size, [], []⟩ :=
  ⟨none, 0, none, 0, _, _, vB, vZ, none, 0, ⟨⟨kept_below hb _ _ h1.head, .inl ⟨rfl, rfl, rfl⟩, .inl ⟨rfl, rfl, rfl⟩, fun L O o e => by cases e⟩, fun k hk => by
    rcases hk with hk | hk
    · exact (h2.rb.lt k hk).2
    · exact hk.elim⟩, ⟨h2, Rel.blank size, fun k hk => hk.elim⟩, fun k hk => hk.elim, Nat.le_refl _, fun L o e => (by cases e), fun L o e => (by cases e), hD, fun L o o' e => (by cases e), fun L o o' e => (by cases e)⟩
set_option maxHeartbeats 16000000 in
set_option maxRecDepth 1000000 in
theorem played_calls (lvl size : Nat) (A : Option Addr) (c : Nat) (l : List ActV) (w : World) (hlv : lvl ≤ 3) (hsz : size ≤ 65536) (h : AR w A l) (hl : l.length ≤ 4611686018427387904) :
    Calls Try.prog 21 #[.int .u8 (lvl : Int), .int .i64 (size : Int), .slice A l.length c] w fun e w' => ∃ C R, e = .returned (.tuple #[.pointer (some ⟨C, 0, none⟩), .pointer (some ⟨R, 0, none⟩), .bool true]) ∧ PlP w C R w' := by
  have C1 := Lib.hid (New_ok (N := fun _ => False) lvl size w hlv hsz)
  generalize hn : l.length = n at *
  have HN := Lib.hid hn
  have HAR := Lib.hid h
  clear h hn
  go_enter Try.func21, Try.ntmps21
  go_wp2_with fail
  refine (C1.out).mono ?_
  rintro e w1 ⟨rfl, hd1, hb1⟩
  have C2 := Lib.hid (Rnew_ok (fun _ => False) w.heap.size lvl size w1 hlv hsz hb1.size)
  have HD1 := Lib.hid hd1
  have HB1 := Lib.hid hb1
  clear hd1 hb1 C1
  go_wp2_with fail
  refine (C2.out).mono ?_
  rintro e w2 ⟨rfl, vB, vZ, hr2, hb2, hv2⟩
  have HP := Lib.hid (PX.start HD1.out hr2 hb2 HB1.out.size)
  have HB := Lib.hid (HB1.out.trans (hb2.mono HB1.out.size))
  obtain ⟨D, hD⟩ : ∃ D, w.heap.size = D := ⟨_, rfl⟩
  obtain ⟨R, hR⟩ : ∃ R, w1.heap.size = R := ⟨_, rfl⟩
  rw [hD] at HP HB
  rw [hR] at HP
  have HD := Lib.hid hD
  clear hr2 hb2 hv2 C2 HD1 HB1
  go_wp2_with fail
  clear hR hD
  go_loopg [13] n (fun g v13 wr => ∃ i : Nat, v13 = .int .i64 (i : Int) ∧ i + g = n ∧ i ≤ 60 ∧ (∃ s, Good s i ∧ PX wr (fun _ => False) D D R s s) ∧ Below D w wr)
  case atStart => exact ⟨0, rfl, Nat.zero_add _, Nat.zero_le _, ⟨_, Good.new 0 hlv hsz, HP.out⟩, HB.out⟩
  case round =>
    obtain ⟨i, rfl, hig, hi60, hpr, hbw⟩ := hrel
    have HPR := Lib.hid hpr
    have HBW := Lib.hid hbw
    have HIG := Lib.hid hig
    clear hpr hbw HP HB
    by_cases hgo : i < n ∧ i < 60
    · obtain ⟨hin, hi6⟩ := hgo
      have d1 : decide ((i : Int) < (n : Int)) = true := by simp; omega
      have d2 : decide ((i : Int) < 60) = true := by simp; omega
      have i1 : (i : Int) < (n : Int) := by omega
      obtain ⟨g, o, rfl, hg, hcell⟩ := HAR.out (by rw [HN.out]; omega)
      obtain ⟨a, ha⟩ : ∃ a, l[i]? = some a := ⟨_, List.getElem?_eq_getElem (by rw [HN.out]; exact hin)⟩
      obtain ⟨r1, r2, r3, r4, r5, r6⟩ := hcell i a ha
      have hgD : g < D := by have := HD.out; omega
      have q1 := (HBW.out.cell (p := ⟨g, o + i * 5, none⟩) hgD).trans r1
      have q2 := (HBW.out.cell (p := ⟨g, o + i * 5 + 1, none⟩) hgD).trans r2
      have q3 := (HBW.out.cell (p := ⟨g, o + i * 5 + 2, none⟩) hgD).trans r3
      have q4 := (HBW.out.cell (p := ⟨g, o + i * 5 + 3, none⟩) hgD).trans r4
      have q5 := (HBW.out.cell (p := ⟨g, o + i * 5 + 4, none⟩) hgD).trans r5
      have CA := Lib.hid (act_calls HPR.out (by omega) (by have := HD.out; have := HBW.out.size; omega) a.d a.p a.n a.A a.bs a.ca a.l (arg_of r6 HBW.out (by have := HD.out; omega)))
      clear ha hcell r1 r2 r3 r4 r5 r6 hg hig
      go_wp2_with fail
      refine (CA.out).mono ?_
      rintro e w5 ⟨rfl, s5, g5, hp5, hb5⟩
      have HFIN : Hid ((∃ s, Good s (i + 1) ∧ PX w5 (fun _ => False) D D R s s) ∧ Below D w w5) := Lib.hid ⟨⟨s5, g5, hp5⟩, HBW.out.trans hb5⟩
      clear g5 hp5 hb5 CA q1 q2 q3 q4 q5
      go_wp2_with fail
      go_roundg (gk - 1)
      case measure => have := HIG.out; omega
      case rel => exact ⟨i + 1, by rw [Int.natCast_succ], by have := HIG.out; omega, by omega, HFIN.out.1, HFIN.out.2⟩
    · obtain ⟨s, gs, hps⟩ := HPR.out
      have CS := Lib.hid (same_calls hps gs)
      have HGS := Lib.hid (gs.mono hi60)
      have HPS := Lib.hid hps
      clear gs hps
      by_cases hin : i < n
      · have d1 : decide ((i : Int) < (n : Int)) = true := by simp; omega
        have d2 : decide ((i : Int) < 60) = false := by simp; omega
        go_wp2_with fail
        refine (CS.out).mono ?_
        rintro e w5 ⟨rfl, hb5⟩
        have HFIN : Hid (PlP w D R w5) := Lib.hid ⟨s, HGS.out, by rw [HD.out]; exact HPS.out.below hb5, by rw [HD.out]; exact HBW.out.trans (hb5.mono (by have := HD.out; have := HBW.out.size; omega))⟩
        clear hb5 CS
        go_wp2_with fail
        go_ret3
        exact ⟨D, R, rfl, HFIN.out⟩
      · have d1 : decide ((i : Int) < (n : Int)) = false := by simp; omega
        go_wp2_with fail
        refine (CS.out).mono ?_
        rintro e w5 ⟨rfl, hb5⟩
        have HFIN : Hid (PlP w D R w5) := Lib.hid ⟨s, HGS.out, by rw [HD.out]; exact HPS.out.below hb5, by rw [HD.out]; exact HBW.out.trans (hb5.mono (by have := HD.out; have := HBW.out.size; omega))⟩
        clear hb5 CS
        go_wp2_with fail
        go_ret3
        exact ⟨D, R, rfl, HFIN.out⟩
end Go.Proofs.Ytbnkiefchbcfgaa.U
