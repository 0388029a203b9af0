/-
  BandShrinks: the walk.
-/
import Derived.Test.YtkajibniibjblaaGreatDoorClamps
namespace Go.Proofs.YtkajibniibjblaaGreatDoor
open Go.RowKit
set_option maxRecDepth 100000

theorem idx7_0 (W : World) : (Instr.index 47 (.agg #[.func (.func 11) #[] #[], .func (.func 14) #[] #[], .func (.func 12) #[] #[], .func (.func 23) #[] #[], .func (.func 24) #[] #[], .func (.func 25) #[] #[], .func (.func 15) #[] #[]]) (.int .i64 0)).run Tryz.prog W = .ok (.func (.func 11) #[] #[]) W := by kernel_rfl

theorem idx7_1 (W : World) : (Instr.index 47 (.agg #[.func (.func 11) #[] #[], .func (.func 14) #[] #[], .func (.func 12) #[] #[], .func (.func 23) #[] #[], .func (.func 24) #[] #[], .func (.func 25) #[] #[], .func (.func 15) #[] #[]]) (.int .i64 1)).run Tryz.prog W = .ok (.func (.func 14) #[] #[]) W := by kernel_rfl

theorem idx7_2 (W : World) : (Instr.index 47 (.agg #[.func (.func 11) #[] #[], .func (.func 14) #[] #[], .func (.func 12) #[] #[], .func (.func 23) #[] #[], .func (.func 24) #[] #[], .func (.func 25) #[] #[], .func (.func 15) #[] #[]]) (.int .i64 2)).run Tryz.prog W = .ok (.func (.func 12) #[] #[]) W := by kernel_rfl

theorem idx7_3 (W : World) : (Instr.index 47 (.agg #[.func (.func 11) #[] #[], .func (.func 14) #[] #[], .func (.func 12) #[] #[], .func (.func 23) #[] #[], .func (.func 24) #[] #[], .func (.func 25) #[] #[], .func (.func 15) #[] #[]]) (.int .i64 3)).run Tryz.prog W = .ok (.func (.func 23) #[] #[]) W := by kernel_rfl

theorem idx7_4 (W : World) : (Instr.index 47 (.agg #[.func (.func 11) #[] #[], .func (.func 14) #[] #[], .func (.func 12) #[] #[], .func (.func 23) #[] #[], .func (.func 24) #[] #[], .func (.func 25) #[] #[], .func (.func 15) #[] #[]]) (.int .i64 4)).run Tryz.prog W = .ok (.func (.func 24) #[] #[]) W := by kernel_rfl

theorem idx7_5 (W : World) : (Instr.index 47 (.agg #[.func (.func 11) #[] #[], .func (.func 14) #[] #[], .func (.func 12) #[] #[], .func (.func 23) #[] #[], .func (.func 24) #[] #[], .func (.func 25) #[] #[], .func (.func 15) #[] #[]]) (.int .i64 5)).run Tryz.prog W = .ok (.func (.func 25) #[] #[]) W := by kernel_rfl

theorem idx7_6 (W : World) : (Instr.index 47 (.agg #[.func (.func 11) #[] #[], .func (.func 14) #[] #[], .func (.func 12) #[] #[], .func (.func 23) #[] #[], .func (.func 24) #[] #[], .func (.func 25) #[] #[], .func (.func 15) #[] #[]]) (.int .i64 6)).run Tryz.prog W = .ok (.func (.func 15) #[] #[]) W := by kernel_rfl

theorem four_cells {W : World} {h1 h2 : Nat} {v1 v2 v3 v4 : Value} (n1 n2 n3 n4 : Value) (hne : h1 ≠ h2) (y1 : W.cell? ⟨h1, 0, none⟩ = some v1) (y2 : W.cell? ⟨h1, 1, none⟩ = some v2) (y3 : W.cell? ⟨h2, 0, none⟩ = some v3) (y4 : W.cell? ⟨h2, 1, none⟩ = some v4) :
    ((((W.setCell ⟨h1, 0, none⟩ n1).setCell ⟨h1, 1, none⟩ n2).setCell ⟨h2, 0, none⟩ n3).setCell ⟨h2, 1, none⟩ n4).cell? ⟨h1, 0, none⟩ = some n1 ∧ ((((W.setCell ⟨h1, 0, none⟩ n1).setCell ⟨h1, 1, none⟩ n2).setCell ⟨h2, 0, none⟩ n3).setCell ⟨h2, 1, none⟩ n4).cell? ⟨h1, 1, none⟩ = some n2 ∧
    ((((W.setCell ⟨h1, 0, none⟩ n1).setCell ⟨h1, 1, none⟩ n2).setCell ⟨h2, 0, none⟩ n3).setCell ⟨h2, 1, none⟩ n4).cell? ⟨h2, 0, none⟩ = some n3 ∧ ((((W.setCell ⟨h1, 0, none⟩ n1).setCell ⟨h1, 1, none⟩ n2).setCell ⟨h2, 0, none⟩ n3).setCell ⟨h2, 1, none⟩ n4).cell? ⟨h2, 1, none⟩ = some n4 := by
  have hne' : h2 ≠ h1 := fun h => hne h.symm
  refine ⟨?_, ?_, ?_, ?_⟩
  · rw [World.cell?_setCell_other _ _ _ _ (by first | (simp; done) | simp [hne']), World.cell?_setCell_other _ _ _ _ (by first | (simp; done) | simp [hne']), World.cell?_setCell_other _ _ _ _ (by simp)]
    exact World.cell?_setCell_same _ _ _ y1
  · rw [World.cell?_setCell_other _ _ _ _ (by first | (simp; done) | simp [hne']), World.cell?_setCell_other _ _ _ _ (by first | (simp; done) | simp [hne'])]
    refine World.cell?_setCell_same (u := v2) _ _ _ ?_
    rw [World.cell?_setCell_other _ _ _ _ (by simp)]; exact y2
  · rw [World.cell?_setCell_other _ _ _ _ (by simp)]
    refine World.cell?_setCell_same (u := v3) _ _ _ ?_
    rw [World.cell?_setCell_other _ _ _ _ (by first | (simp; done) | simp [hne]), World.cell?_setCell_other _ _ _ _ (by first | (simp; done) | simp [hne])]; exact y3
  · refine World.cell?_setCell_same (u := v4) _ _ _ ?_
    rw [World.cell?_setCell_other _ _ _ _ (by simp), World.cell?_setCell_other _ _ _ _ (by first | (simp; done) | simp [hne]), World.cell?_setCell_other _ _ _ _ (by first | (simp; done) | simp [hne])]; exact y4

set_option maxHeartbeats 40000000 in
theorem shrinks_walk (w : World) (henv : Env2 w) (ax ux ay uy l0 l1 l2 l3 : Int) (hx0 : -9223372036854775808 ≤ ax) (hx1 : ax ≤ 9223372036854775807) (hx2 : 0 ≤ ux) (hx3 : ux ≤ 4294967295) (hy0 : -9223372036854775808 ≤ ay) (hy1 : ay ≤ 9223372036854775807) (hy2 : 0 ≤ uy) (hy3 : uy ≤ 4294967295)
    (hl00 : 0 ≤ l0) (hl01 : l0 ≤ 65535) (hl10 : 0 ≤ l1) (hl11 : l1 ≤ 65535) (hl20 : 0 ≤ l2) (hl21 : l2 ≤ 65535) (hl30 : 0 ≤ l3) (hl31 : l3 ≤ 65535) :
    Calls Tryz.prog 5 #[.agg #[.int .i64 ax, .int .u32 ux], .agg #[.int .i64 ay, .int .u32 uy], .agg #[.int .u16 l0, .int .u16 l1, .int .u16 l2, .int .u16 l3]] w fun e w' => e = .returned (.bool true) ∧ Below w.heap.size w w' := by
  have hW : Below w.heap.size w (((w.alloc (.cells #[.int .i64 ax, .int .u32 ux] 26)).alloc (.cells #[.int .i64 ay, .int .u32 uy] 26)).alloc (.cells #[.int .u16 l0, .int .u16 l1, .int .u16 l2, .int .u16 l3] 46)) := ((((Below.refl w.heap.size w).alloc (Nat.le_refl _) _).alloc (by simp <;> omega) _).alloc (by simp <;> omega) _)
  have o1 := heap_more (heap_more (heap_last w (.cells #[.int .i64 ax, .int .u32 ux] 26)) (.cells #[.int .i64 ay, .int .u32 uy] 26)) (.cells #[.int .u16 l0, .int .u16 l1, .int .u16 l2, .int .u16 l3] 46)
  have O1 := Lib.hid o1
  clear o1
  have o2 := heap_more (heap_last (w.alloc (.cells #[.int .i64 ax, .int .u32 ux] 26)) (.cells #[.int .i64 ay, .int .u32 uy] 26)) (.cells #[.int .u16 l0, .int .u16 l1, .int .u16 l2, .int .u16 l3] 46)
  rw [show (w.alloc (.cells #[.int .i64 ax, .int .u32 ux] 26)).heap.size = w.heap.size + 1 by simp] at o2
  have O2 := Lib.hid o2
  clear o2
  have o3 := heap_last ((w.alloc (.cells #[.int .i64 ax, .int .u32 ux] 26)).alloc (.cells #[.int .i64 ay, .int .u32 uy] 26)) (.cells #[.int .u16 l0, .int .u16 l1, .int .u16 l2, .int .u16 l3] 46)
  rw [show ((w.alloc (.cells #[.int .i64 ax, .int .u32 ux] 26)).alloc (.cells #[.int .i64 ay, .int .u32 uy] 26)).heap.size = w.heap.size + 1 + 1 by simp] at o3
  have O3 := Lib.hid o3
  clear o3
  have hsz : (((w.alloc (.cells #[.int .i64 ax, .int .u32 ux] 26)).alloc (.cells #[.int .i64 ay, .int .u32 uy] 26)).alloc (.cells #[.int .u16 l0, .int .u16 l1, .int .u16 l2, .int .u16 l3] 46)).heap.size = w.heap.size + 1 + 1 + 1 := by simp
  have HSZ := Lib.hid hsz
  clear hsz
  have HE := Lib.hid (henv.below hW)
  clear henv
  go_enter Tryz.func5, Tryz.ntmps5
  go_wp2_with fail
  refine (works_any _ HE.out).mono ?_
  rintro e w1 ⟨rfl, hbw⟩
  have hW1 := chain hW hbw
  have OX := Lib.hid (blk_later O1.out hbw)
  have OY := Lib.hid (blk_later O2.out hbw)
  have OL := Lib.hid (blk_later O3.out hbw)
  have HS : Hid (∀ w', Below w1.heap.size w1 w' → w'.cell? ⟨w.heap.size, 0, none⟩ = some (.int .i64 ax) ∧ w'.cell? ⟨w.heap.size, 1, none⟩ = some (.int .u32 ux) ∧ w'.cell? ⟨w.heap.size + 1, 0, none⟩ = some (.int .i64 ay) ∧ w'.cell? ⟨w.heap.size + 1, 1, none⟩ = some (.int .u32 uy)) := fun w' h => ⟨cell_later OX.out h, cell_later OX.out h, cell_later OY.out h, cell_later OY.out h⟩
  go_upto_region 3 with fail
  go_cut [7, 8] (fun p1 p2 wx => ∃ g1 g2 a b c d, p1 = .pointer (some ⟨g1, 0, none⟩) ∧ p2 = .pointer (some ⟨g2, 0, none⟩) ∧ Hid (SmallB a b) ∧ Hid (SmallB c d) ∧ wx.cell? ⟨g1, 0, none⟩ = some (.int .i64 a) ∧ wx.cell? ⟨g1, 1, none⟩ = some (.int .i64 b) ∧ wx.cell? ⟨g2, 0, none⟩ = some (.int .i64 c) ∧ wx.cell? ⟨g2, 1, none⟩ = some (.int .i64 d) ∧ Below w1.heap.size w1 wx)
  case first =>
    go_region_held3 (fun w' => w'.cell? ⟨w.heap.size, 0, none⟩ = some (.int .i64 ax) ∧ w'.cell? ⟨w.heap.size, 1, none⟩ = some (.int .u32 ux) ∧ w'.cell? ⟨w.heap.size + 1, 0, none⟩ = some (.int .i64 ay) ∧ w'.cell? ⟨w.heap.size + 1, 1, none⟩ = some (.int .u32 uy))
      ((refine HS.out _ ?_; repeat (first | with_reducible exact Below.refl _ _ | with_reducible exact hd1 | with_reducible exact hd2 | (with_reducible refine Below.setCell ?_ (by first | omega | (simp <;> omega)) _) | (with_reducible refine Below.alloc ?_ (by first | omega | (simp <;> omega)) _) | with_reducible refine Below.drew ?_)))
      (first
        | (go_at_call 20; (fail_if_success (have hq := hP1)); (refine (small_any _ ax ux hx0 hx1 hx2 hx3).mono ?_); rintro e v1 ⟨a, b, rfl, hP1, hb1⟩; have hcl1 := (bcell hb1).1; have hfr1 := (bcell hb1).2; have hs1 := hb1.size; (try simp at hs1); have hd1 : Below w1.heap.size w1 v1 := (by refine Below.trans ?_ (hb1.mono (by first | omega | (simp <;> omega))); repeat (first | with_reducible exact Below.refl _ _ | with_reducible exact hd1 | with_reducible exact hd2 | (with_reducible refine Below.setCell ?_ (by first | omega | (simp <;> omega)) _) | (with_reducible refine Below.alloc ?_ (by first | omega | (simp <;> omega)) _) | with_reducible refine Below.drew ?_)); (try have ht0 : w1.heap.size < v1.heap.size := by omega); (try have ht1 : w1.heap.size + 1 < v1.heap.size := by omega))
        | (go_at_call 20; (refine (small_any _ ay uy hy0 hy1 hy2 hy3).mono ?_); rintro e v2 ⟨c, d, rfl, hP2, hb2⟩; have hcl2 := (bcell hb2).1; have hfr2 := (bcell hb2).2; have hs2 := hb2.size; (try simp at hs2); have hd2 : Below w1.heap.size w1 v2 := (by refine Below.trans ?_ (hb2.mono (by first | omega | (simp <;> omega))); repeat (first | with_reducible exact Below.refl _ _ | with_reducible exact hd1 | with_reducible exact hd2 | (with_reducible refine Below.setCell ?_ (by first | omega | (simp <;> omega)) _) | (with_reducible refine Below.alloc ?_ (by first | omega | (simp <;> omega)) _) | with_reducible refine Below.drew ?_)); (try have hu0 : v1.heap.size < v2.heap.size := by omega); (try have hu1 : v1.heap.size + 1 < v2.heap.size := by omega); (try have hu2 : w1.heap.size < v2.heap.size := by omega); (try have hu3 : w1.heap.size + 1 < v2.heap.size := by omega); (try have hu4 : w1.heap.size < v1.heap.size + 1 := by omega); (try have hu5 : w1.heap.size + 1 < v1.heap.size + 1 := by omega)))
    all_goals (
      go_wp2_with fail
      go_meet
      refine ⟨_, _, a, b, c, d, rfl, rfl, hP1, hP2, ?_, ?_, ?_, ?_, ?_⟩
      · first | (go_simp; done) | (go_simp; refine World.cell?_setCell_same (u := .int .i64 0) _ _ _ ?_; go_simp; done) | (go_simp; refine (World.cell?_setCell_other _ _ _ _ (by simp <;> omega)).trans ?_; go_simp; done)
      · first | (go_simp; done) | (go_simp; refine World.cell?_setCell_same (u := .int .i64 0) _ _ _ ?_; go_simp; done) | (go_simp; refine (World.cell?_setCell_other _ _ _ _ (by simp <;> omega)).trans ?_; go_simp; done)
      · first | (go_simp; done) | (go_simp; refine World.cell?_setCell_same (u := .int .i64 0) _ _ _ ?_; go_simp; done) | (go_simp; refine (World.cell?_setCell_other _ _ _ _ (by simp <;> omega)).trans ?_; go_simp; done)
      · first | (go_simp; done) | (go_simp; refine World.cell?_setCell_same (u := .int .i64 0) _ _ _ ?_; go_simp; done) | (go_simp; refine (World.cell?_setCell_other _ _ _ _ (by simp <;> omega)).trans ?_; go_simp; done)
      · repeat (first | with_reducible exact Below.refl _ _ | with_reducible exact hd1 | with_reducible exact hd2 | (with_reducible refine Below.setCell ?_ (by first | omega | (simp <;> omega)) _) | (with_reducible refine Below.alloc ?_ (by first | omega | (simp <;> omega)) _) | with_reducible refine Below.drew ?_))
  case rest =>
    obtain ⟨g1, g2, a, b, c, dd, rfl, rfl, hP, hQ, z1, z2, z3, z4, hbc⟩ := hcut
    have lg1 := World.block_lt_of_cell? _ _ z1
    have lg2 := World.block_lt_of_cell? _ _ z3
    simp only at lg1 lg2
    obtain ⟨wp, rfl⟩ : ∃ x : World, x = wc := ⟨_, rfl⟩
    have HS2 : Hid (∀ w', Below wp.heap.size wp w' → w'.cell? ⟨g1, 0, none⟩ = some (.int .i64 a) ∧ w'.cell? ⟨g1, 1, none⟩ = some (.int .i64 b) ∧ w'.cell? ⟨g2, 0, none⟩ = some (.int .i64 c) ∧ w'.cell? ⟨g2, 1, none⟩ = some (.int .i64 dd)) := fun w' h => ⟨(h.cell (p := ⟨g1, 0, none⟩) lg1).trans z1, (h.cell (p := ⟨g1, 1, none⟩) lg1).trans z2, (h.cell (p := ⟨g2, 0, none⟩) lg2).trans z3, (h.cell (p := ⟨g2, 1, none⟩) lg2).trans z4⟩
    go_upto_region 4 with fail
    go_cut [9, 10] (fun p1 p2 wx => ∃ h1 h2, p1 = .pointer (some ⟨h1, 0, none⟩) ∧ p2 = .pointer (some ⟨h2, 0, none⟩) ∧ h1 ≠ h2 ∧ wp.heap.size ≤ h1 ∧ wp.heap.size ≤ h2 ∧ wx.cell? ⟨h1, 0, none⟩ = some (.int .i64 a) ∧ wx.cell? ⟨h1, 1, none⟩ = some (.int .i64 b) ∧ wx.cell? ⟨h2, 0, none⟩ = some (.int .i64 c) ∧ wx.cell? ⟨h2, 1, none⟩ = some (.int .i64 dd) ∧ (∀ o, wx.frozen? ⟨h1, o, none⟩ = false) ∧ (∀ o, wx.frozen? ⟨h2, o, none⟩ = false) ∧ Below wp.heap.size wp wx)
    case first =>
      go_region_held3 (fun w' => w'.cell? ⟨g1, 0, none⟩ = some (.int .i64 a) ∧ w'.cell? ⟨g1, 1, none⟩ = some (.int .i64 b) ∧ w'.cell? ⟨g2, 0, none⟩ = some (.int .i64 c) ∧ w'.cell? ⟨g2, 1, none⟩ = some (.int .i64 dd)) ((refine HS2.out _ ?_; repeat (first | with_reducible exact Below.refl _ _ | (with_reducible refine Below.setCell ?_ (by first | omega | (simp <;> omega)) _) | (with_reducible refine Below.alloc ?_ (by first | omega | (simp <;> omega)) _) | with_reducible refine Below.drew ?_))) (fail)
      all_goals (
        go_wp2_with fail
        go_meet
        refine ⟨_, _, rfl, rfl, ?_, ?_, ?_, ?_, ?_, ?_, ?_, ?_, ?_, ?_⟩
        · first | omega | (simp <;> omega)
        · first | omega | (simp <;> omega)
        · first | omega | (simp <;> omega)
        · first | (go_simp; done) | (go_simp; refine World.cell?_setCell_same (u := .int .i64 0) _ _ _ ?_; go_simp; done) | (go_simp; refine (World.cell?_setCell_other _ _ _ _ (by simp <;> omega)).trans ?_; go_simp; done)
        · first | (go_simp; done) | (go_simp; refine World.cell?_setCell_same (u := .int .i64 0) _ _ _ ?_; go_simp; done) | (go_simp; refine (World.cell?_setCell_other _ _ _ _ (by simp <;> omega)).trans ?_; go_simp; done)
        · first | (go_simp; done) | (go_simp; refine World.cell?_setCell_same (u := .int .i64 0) _ _ _ ?_; go_simp; done) | (go_simp; refine (World.cell?_setCell_other _ _ _ _ (by simp <;> omega)).trans ?_; go_simp; done)
        · first | (go_simp; done) | (go_simp; refine World.cell?_setCell_same (u := .int .i64 0) _ _ _ ?_; go_simp; done) | (go_simp; refine (World.cell?_setCell_other _ _ _ _ (by simp <;> omega)).trans ?_; go_simp; done)
        · intro o; go_simp
        · intro o; go_simp
        · repeat (first | with_reducible exact Below.refl _ _ | (with_reducible refine Below.setCell ?_ (by first | omega | (simp <;> omega)) _) | (with_reducible refine Below.alloc ?_ (by first | omega | (simp <;> omega)) _) | with_reducible refine Below.drew ?_))
    case rest =>
      obtain ⟨h1, h2, rfl, rfl, hne, hg1, hg2, y1, y2, y3, y4, f1, f2, hbd⟩ := hcut
      have le0 := cell_later (j := 0) OL.out (chain hbc hbd)
      have le1 := cell_later (j := 1) OL.out (chain hbc hbd)
      have le2 := cell_later (j := 2) OL.out (chain hbc hbd)
      have le3 := cell_later (j := 3) OL.out (chain hbc hbd)
      simp at le0 le1 le2 le3
      have hl5 : w.heap.size + 1 + 1 < w1.heap.size := (Array.getElem?_eq_some_iff.1 OL.out).1
      have hl6 := hbc.size
      obtain ⟨ml, hml⟩ : ∃ ml, min (a + l0) b = ml := ⟨_, rfl⟩
      obtain ⟨mh, hmh⟩ : ∃ mh, max (b - l1) ml = mh := ⟨_, rfl⟩
      obtain ⟨nl, hnl⟩ : ∃ nl, min (c + l2) dd = nl := ⟨_, rfl⟩
      obtain ⟨nh, hnh⟩ : ∃ nh, max (dd - l3) nl = nh := ⟨_, rfl⟩
      have mm1 := fun w ts t => run_min2 w ts t (a + l0) b
      have mm2 := fun w ts t => run_max2 w ts t (b - l1) ml
      have mm3 := fun w ts t => run_min2 w ts t (c + l2) dd
      have mm4 := fun w ts t => run_max2 w ts t (dd - l3) nl
      rw [hml] at mm1
      rw [hmh] at mm2
      rw [hnl] at mm3
      rw [hnh] at mm4
      have hpp := hP.out
      have hqq := hQ.out
      unfold SmallB at hpp hqq
      have i1 : Hid (a ≤ ml) := by show _ ≤ _; omega
      have i2 : Hid (ml ≤ mh) := by show _ ≤ _; omega
      have i3 : Hid (mh ≤ b) := by show _ ≤ _; omega
      have i4 : Hid (c ≤ nl) := by show _ ≤ _; omega
      have i5 : Hid (nl ≤ nh) := by show _ ≤ _; omega
      have i6 : Hid (nh ≤ dd) := by show _ ≤ _; omega
      have hp : Hid (okB a b = true) := hP.out.ok
      have hq : Hid (okB c dd = true) := hQ.out.ok
      have pa0 := hpp.1
      have pa1 := hpp.2.1
      have pa2 := hpp.2.2
      have qa0 := hqq.1
      have qa1 := hqq.2.1
      have qa2 := hqq.2.2
      have hne' : h2 ≠ h1 := fun h => hne h.symm
      clear hml hmh hnl hnh hpp hqq hP hQ
      go_wp2_with fail
      have hbe : Below wp.heap.size wp ((((wc.setCell ⟨h1, 0, none⟩ (.int .i64 ml)).setCell ⟨h1, 1, none⟩ (.int .i64 mh)).setCell ⟨h2, 0, none⟩ (.int .i64 nl)).setCell ⟨h2, 1, none⟩ (.int .i64 nh)) := by repeat (first | with_reducible exact hbd | (with_reducible refine Below.setCell ?_ (by first | omega | (simp <;> omega)) _))
      obtain ⟨q1, q2, q3, q4⟩ := four_cells (.int .i64 ml) (.int .i64 mh) (.int .i64 nl) (.int .i64 nh) hne y1 y2 y3 y4
      have hE := HS2.out _ hbe
      have hWE := chain hW1 (chain hbc hbe)
      generalize hwe : ((((wc.setCell ⟨h1, 0, none⟩ (.int .i64 ml)).setCell ⟨h1, 1, none⟩ (.int .i64 mh)).setCell ⟨h2, 0, none⟩ (.int .i64 nl)).setCell ⟨h2, 1, none⟩ (.int .i64 nh)) = we at hbe q1 q2 q3 q4 hE hWE ⊢
      clear hwe y1 y2 y3 y4 f1 f2 hbd le0 le1 le2 le3 z1 z2 z3 z4 lg1 lg2 mm1 mm2 mm3 mm4 OL OX OY HS HS2 pa0 pa1 pa2 qa0 qa1 qa2
      obtain ⟨z1, z2, z3, z4⟩ := hE
      have lg1 := World.block_lt_of_cell? _ _ z1
      have lg2 := World.block_lt_of_cell? _ _ z3
      have lh1 := World.block_lt_of_cell? _ _ q1
      have lh2 := World.block_lt_of_cell? _ _ q3
      go_loopw [66] (fun t wr => ∃ k : Int, 0 ≤ k ∧ k ≤ 7 ∧ t = .int .i64 k ∧ Below we.heap.size we wr) (fun t _ => (7 - intOf t).toNat)
      case atStart => exact ⟨0, by omega, by omega, rfl, Below.refl _ _⟩
      case round =>
        obtain ⟨k, hk0, hk1, rfl, hbr⟩ := hrel
        have hk7 : k = 0 ∨ k = 1 ∨ k = 2 ∨ k = 3 ∨ k = 4 ∨ k = 5 ∨ k = 6 ∨ k = 7 := by omega
        clear hk0 hk1
        rcases hk7 with rfl | rfl | rfl | rfl | rfl | rfl | rfl | rfl
        · as_aux_lemma =>
            have hi7 := idx7_0
            obtain ⟨r, hr⟩ : ∃ r, addB a b c dd = r := ⟨_, rfl⟩
            obtain ⟨s, hs⟩ : ∃ s, addB ml mh nl nh = s := ⟨_, rfl⟩
            have hsh := shrink_add hp.out hq.out i1.out i2.out i3.out i4.out i5.out i6.out
            rw [hr, hs] at hsh
            have HR := Lib.hid hr
            have HS' := Lib.hid hs
            clear hr hs
            have hcase : r.e ≠ 0 ∨ (r.e = 0 ∧ s.e = 0 ∧ r.lo ≤ s.lo ∧ s.hi ≤ r.hi) := by
              by_cases he : r.e = 0
              · exact .inr ⟨he, (hsh he).1, (hsh he).2.1, (hsh he).2.2⟩
              · exact .inl he
            clear hsh
            rcases hcase with he | ⟨he, hse, hl1, hl2⟩
            · have he' : (r.e == 0) = false := by simp [he]
              obtain ⟨w0, rfl⟩ : ∃ x : World, x = wr := ⟨_, rfl⟩
              have hc0 := hbr
              have cp0 := (hbr.cell (p := ⟨g1, 0, none⟩) lg1).trans z1
              have cp1 := (hbr.cell (p := ⟨g1, 1, none⟩) lg1).trans z2
              have lp := World.block_lt_of_cell? _ _ cp0
              have cq0 := (hbr.cell (p := ⟨g2, 0, none⟩) lg2).trans z3
              have cq1 := (hbr.cell (p := ⟨g2, 1, none⟩) lg2).trans z4
              have lq := World.block_lt_of_cell? _ _ cq0
              have cm0 := (hbr.cell (p := ⟨h1, 0, none⟩) lh1).trans q1
              have cm1 := (hbr.cell (p := ⟨h1, 1, none⟩) lh1).trans q2
              have lm := World.block_lt_of_cell? _ _ cm0
              have cn0 := (hbr.cell (p := ⟨h2, 0, none⟩) lh2).trans q3
              have cn1 := (hbr.cell (p := ⟨h2, 1, none⟩) lh2).trans q4
              have ln := World.block_lt_of_cell? _ _ cn0
              go_wp2_with fail
              refine (add_b _ a b c dd).mono ?_
              rintro e w1 ⟨rfl, hb1⟩
              rw [HR.out]
              have hk1 := hb1
              have hc1 := chain hc0 hk1
              have hz1 := hk1.size
              have cp0 := (hk1.cell (p := ⟨g1, 0, none⟩) lp).trans cp0
              have cp1 := (hk1.cell (p := ⟨g1, 1, none⟩) lp).trans cp1
              have lp := Nat.lt_of_lt_of_le lp hk1.size
              have cq0 := (hk1.cell (p := ⟨g2, 0, none⟩) lq).trans cq0
              have cq1 := (hk1.cell (p := ⟨g2, 1, none⟩) lq).trans cq1
              have lq := Nat.lt_of_lt_of_le lq hk1.size
              have cm0 := (hk1.cell (p := ⟨h1, 0, none⟩) lm).trans cm0
              have cm1 := (hk1.cell (p := ⟨h1, 1, none⟩) lm).trans cm1
              have lm := Nat.lt_of_lt_of_le lm hk1.size
              have cn0 := (hk1.cell (p := ⟨h2, 0, none⟩) ln).trans cn0
              have cn1 := (hk1.cell (p := ⟨h2, 1, none⟩) ln).trans cn1
              have ln := Nat.lt_of_lt_of_le ln hk1.size
              go_wp2_with fail
              refine (add_b _ ml mh nl nh).mono ?_
              rintro e w2 ⟨rfl, hb2⟩
              rw [HS'.out]
              have hl2 := heap_last w1 (.cells #[.int .i64 r.lo, .int .i64 r.hi] 23)
              have hk2 : Below w1.heap.size w1 w2 := chain ((Below.refl _ _).alloc (Nat.le_refl _) (.cells #[.int .i64 r.lo, .int .i64 r.hi] 23)) hb2
              have hc2 := chain hc1 hk2
              have hz2 := hk2.size
              clear cp0 cp1 lp
              clear cq0 cq1 lq
              clear cm0 cm1 lm
              clear cn0 cn1 ln
              have cr0 : w2.cell? ⟨w1.heap.size, 0, none⟩ = some (.int .i64 r.lo) := cell_later hl2 hb2
              have cr1 : w2.cell? ⟨w1.heap.size, 1, none⟩ = some (.int .i64 r.hi) := cell_later hl2 hb2
              have lr := World.block_lt_of_cell? _ _ cr0
              clear hl2
              go_wp2_with fail
              go_roundw
              case rel => exact ⟨1, by omega, by omega, (by first | rfl | go_num), (hc2.alloc hc2.size _)⟩
              case measure => first | (simp [intOf]; done) | (simp [intOf] <;> omega) | decide
            · obtain ⟨rl, rh, rfl⟩ := BR.of_e he
              obtain ⟨sl, sh, rfl⟩ := BR.of_e hse
              simp only at hl1 hl2
              clear he hse
              obtain ⟨w0, rfl⟩ : ∃ x : World, x = wr := ⟨_, rfl⟩
              have hc0 := hbr
              have cp0 := (hbr.cell (p := ⟨g1, 0, none⟩) lg1).trans z1
              have cp1 := (hbr.cell (p := ⟨g1, 1, none⟩) lg1).trans z2
              have lp := World.block_lt_of_cell? _ _ cp0
              have cq0 := (hbr.cell (p := ⟨g2, 0, none⟩) lg2).trans z3
              have cq1 := (hbr.cell (p := ⟨g2, 1, none⟩) lg2).trans z4
              have lq := World.block_lt_of_cell? _ _ cq0
              have cm0 := (hbr.cell (p := ⟨h1, 0, none⟩) lh1).trans q1
              have cm1 := (hbr.cell (p := ⟨h1, 1, none⟩) lh1).trans q2
              have lm := World.block_lt_of_cell? _ _ cm0
              have cn0 := (hbr.cell (p := ⟨h2, 0, none⟩) lh2).trans q3
              have cn1 := (hbr.cell (p := ⟨h2, 1, none⟩) lh2).trans q4
              have ln := World.block_lt_of_cell? _ _ cn0
              go_wp2_with fail
              refine (add_b _ a b c dd).mono ?_
              rintro e w1 ⟨rfl, hb1⟩
              rw [HR.out]
              have hk1 := hb1
              have hc1 := chain hc0 hk1
              have hz1 := hk1.size
              have cp0 := (hk1.cell (p := ⟨g1, 0, none⟩) lp).trans cp0
              have cp1 := (hk1.cell (p := ⟨g1, 1, none⟩) lp).trans cp1
              have lp := Nat.lt_of_lt_of_le lp hk1.size
              have cq0 := (hk1.cell (p := ⟨g2, 0, none⟩) lq).trans cq0
              have cq1 := (hk1.cell (p := ⟨g2, 1, none⟩) lq).trans cq1
              have lq := Nat.lt_of_lt_of_le lq hk1.size
              have cm0 := (hk1.cell (p := ⟨h1, 0, none⟩) lm).trans cm0
              have cm1 := (hk1.cell (p := ⟨h1, 1, none⟩) lm).trans cm1
              have lm := Nat.lt_of_lt_of_le lm hk1.size
              have cn0 := (hk1.cell (p := ⟨h2, 0, none⟩) ln).trans cn0
              have cn1 := (hk1.cell (p := ⟨h2, 1, none⟩) ln).trans cn1
              have ln := Nat.lt_of_lt_of_le ln hk1.size
              go_wp2_with fail
              refine (add_b _ ml mh nl nh).mono ?_
              rintro e w2 ⟨rfl, hb2⟩
              rw [HS'.out]
              have hl2 := heap_last w1 (.cells #[.int .i64 rl, .int .i64 rh] 23)
              have hk2 : Below w1.heap.size w1 w2 := chain ((Below.refl _ _).alloc (Nat.le_refl _) (.cells #[.int .i64 rl, .int .i64 rh] 23)) hb2
              have hc2 := chain hc1 hk2
              have hz2 := hk2.size
              clear cp0 cp1 lp
              clear cq0 cq1 lq
              clear cm0 cm1 lm
              clear cn0 cn1 ln
              have cr0 : w2.cell? ⟨w1.heap.size, 0, none⟩ = some (.int .i64 rl) := cell_later hl2 hb2
              have cr1 : w2.cell? ⟨w1.heap.size, 1, none⟩ = some (.int .i64 rh) := cell_later hl2 hb2
              have lr := World.block_lt_of_cell? _ _ cr0
              clear hl2
              go_wp2_with fail
              refine (inside_ok _ _ _ _ _ hl1 hl2).mono ?_
              rintro e w3 ⟨rfl, hb3⟩
              have hl3 := heap_last w2 (.cells #[.int .i64 sl, .int .i64 sh] 23)
              have hk3 : Below w2.heap.size w2 w3 := chain ((Below.refl _ _).alloc (Nat.le_refl _) (.cells #[.int .i64 sl, .int .i64 sh] 23)) hb3
              have hc3 := chain hc2 hk3
              have hz3 := hk3.size
              have cr0 := (hk3.cell (p := ⟨w1.heap.size, 0, none⟩) lr).trans cr0
              have cr1 := (hk3.cell (p := ⟨w1.heap.size, 1, none⟩) lr).trans cr1
              have lr := Nat.lt_of_lt_of_le lr hk3.size
              have cs0 : w3.cell? ⟨w2.heap.size, 0, none⟩ = some (.int .i64 sl) := cell_later hl3 hb3
              have cs1 : w3.cell? ⟨w2.heap.size, 1, none⟩ = some (.int .i64 sh) := cell_later hl3 hb3
              have ls := World.block_lt_of_cell? _ _ cs0
              clear hl3
              go_wp2_with fail
              go_roundw
              case rel => exact ⟨1, by omega, by omega, (by first | rfl | go_num), hc3⟩
              case measure => first | (simp [intOf]; done) | (simp [intOf] <;> omega) | decide
        · as_aux_lemma =>
            have hi7 := idx7_1
            obtain ⟨r, hr⟩ : ∃ r, subB a b c dd = r := ⟨_, rfl⟩
            obtain ⟨s, hs⟩ : ∃ s, subB ml mh nl nh = s := ⟨_, rfl⟩
            have hsh := shrink_sub hp.out hq.out i1.out i2.out i3.out i4.out i5.out i6.out
            rw [hr, hs] at hsh
            have HR := Lib.hid hr
            have HS' := Lib.hid hs
            clear hr hs
            have hcase : r.e ≠ 0 ∨ (r.e = 0 ∧ s.e = 0 ∧ r.lo ≤ s.lo ∧ s.hi ≤ r.hi) := by
              by_cases he : r.e = 0
              · exact .inr ⟨he, (hsh he).1, (hsh he).2.1, (hsh he).2.2⟩
              · exact .inl he
            clear hsh
            rcases hcase with he | ⟨he, hse, hl1, hl2⟩
            · have he' : (r.e == 0) = false := by simp [he]
              obtain ⟨w0, rfl⟩ : ∃ x : World, x = wr := ⟨_, rfl⟩
              have hc0 := hbr
              have cp0 := (hbr.cell (p := ⟨g1, 0, none⟩) lg1).trans z1
              have cp1 := (hbr.cell (p := ⟨g1, 1, none⟩) lg1).trans z2
              have lp := World.block_lt_of_cell? _ _ cp0
              have cq0 := (hbr.cell (p := ⟨g2, 0, none⟩) lg2).trans z3
              have cq1 := (hbr.cell (p := ⟨g2, 1, none⟩) lg2).trans z4
              have lq := World.block_lt_of_cell? _ _ cq0
              have cm0 := (hbr.cell (p := ⟨h1, 0, none⟩) lh1).trans q1
              have cm1 := (hbr.cell (p := ⟨h1, 1, none⟩) lh1).trans q2
              have lm := World.block_lt_of_cell? _ _ cm0
              have cn0 := (hbr.cell (p := ⟨h2, 0, none⟩) lh2).trans q3
              have cn1 := (hbr.cell (p := ⟨h2, 1, none⟩) lh2).trans q4
              have ln := World.block_lt_of_cell? _ _ cn0
              go_wp2_with fail
              refine (sub_c _ a b c dd).mono ?_
              rintro e w1 ⟨rfl, hb1⟩
              rw [HR.out]
              have hk1 := hb1
              have hc1 := chain hc0 hk1
              have hz1 := hk1.size
              have cp0 := (hk1.cell (p := ⟨g1, 0, none⟩) lp).trans cp0
              have cp1 := (hk1.cell (p := ⟨g1, 1, none⟩) lp).trans cp1
              have lp := Nat.lt_of_lt_of_le lp hk1.size
              have cq0 := (hk1.cell (p := ⟨g2, 0, none⟩) lq).trans cq0
              have cq1 := (hk1.cell (p := ⟨g2, 1, none⟩) lq).trans cq1
              have lq := Nat.lt_of_lt_of_le lq hk1.size
              have cm0 := (hk1.cell (p := ⟨h1, 0, none⟩) lm).trans cm0
              have cm1 := (hk1.cell (p := ⟨h1, 1, none⟩) lm).trans cm1
              have lm := Nat.lt_of_lt_of_le lm hk1.size
              have cn0 := (hk1.cell (p := ⟨h2, 0, none⟩) ln).trans cn0
              have cn1 := (hk1.cell (p := ⟨h2, 1, none⟩) ln).trans cn1
              have ln := Nat.lt_of_lt_of_le ln hk1.size
              go_wp2_with fail
              refine (sub_c _ ml mh nl nh).mono ?_
              rintro e w2 ⟨rfl, hb2⟩
              rw [HS'.out]
              have hl2 := heap_last w1 (.cells #[.int .i64 r.lo, .int .i64 r.hi] 23)
              have hk2 : Below w1.heap.size w1 w2 := chain ((Below.refl _ _).alloc (Nat.le_refl _) (.cells #[.int .i64 r.lo, .int .i64 r.hi] 23)) hb2
              have hc2 := chain hc1 hk2
              have hz2 := hk2.size
              clear cp0 cp1 lp
              clear cq0 cq1 lq
              clear cm0 cm1 lm
              clear cn0 cn1 ln
              have cr0 : w2.cell? ⟨w1.heap.size, 0, none⟩ = some (.int .i64 r.lo) := cell_later hl2 hb2
              have cr1 : w2.cell? ⟨w1.heap.size, 1, none⟩ = some (.int .i64 r.hi) := cell_later hl2 hb2
              have lr := World.block_lt_of_cell? _ _ cr0
              clear hl2
              go_wp2_with fail
              go_roundw
              case rel => exact ⟨2, by omega, by omega, (by first | rfl | go_num), (hc2.alloc hc2.size _)⟩
              case measure => first | (simp [intOf]; done) | (simp [intOf] <;> omega) | decide
            · obtain ⟨rl, rh, rfl⟩ := BR.of_e he
              obtain ⟨sl, sh, rfl⟩ := BR.of_e hse
              simp only at hl1 hl2
              clear he hse
              obtain ⟨w0, rfl⟩ : ∃ x : World, x = wr := ⟨_, rfl⟩
              have hc0 := hbr
              have cp0 := (hbr.cell (p := ⟨g1, 0, none⟩) lg1).trans z1
              have cp1 := (hbr.cell (p := ⟨g1, 1, none⟩) lg1).trans z2
              have lp := World.block_lt_of_cell? _ _ cp0
              have cq0 := (hbr.cell (p := ⟨g2, 0, none⟩) lg2).trans z3
              have cq1 := (hbr.cell (p := ⟨g2, 1, none⟩) lg2).trans z4
              have lq := World.block_lt_of_cell? _ _ cq0
              have cm0 := (hbr.cell (p := ⟨h1, 0, none⟩) lh1).trans q1
              have cm1 := (hbr.cell (p := ⟨h1, 1, none⟩) lh1).trans q2
              have lm := World.block_lt_of_cell? _ _ cm0
              have cn0 := (hbr.cell (p := ⟨h2, 0, none⟩) lh2).trans q3
              have cn1 := (hbr.cell (p := ⟨h2, 1, none⟩) lh2).trans q4
              have ln := World.block_lt_of_cell? _ _ cn0
              go_wp2_with fail
              refine (sub_c _ a b c dd).mono ?_
              rintro e w1 ⟨rfl, hb1⟩
              rw [HR.out]
              have hk1 := hb1
              have hc1 := chain hc0 hk1
              have hz1 := hk1.size
              have cp0 := (hk1.cell (p := ⟨g1, 0, none⟩) lp).trans cp0
              have cp1 := (hk1.cell (p := ⟨g1, 1, none⟩) lp).trans cp1
              have lp := Nat.lt_of_lt_of_le lp hk1.size
              have cq0 := (hk1.cell (p := ⟨g2, 0, none⟩) lq).trans cq0
              have cq1 := (hk1.cell (p := ⟨g2, 1, none⟩) lq).trans cq1
              have lq := Nat.lt_of_lt_of_le lq hk1.size
              have cm0 := (hk1.cell (p := ⟨h1, 0, none⟩) lm).trans cm0
              have cm1 := (hk1.cell (p := ⟨h1, 1, none⟩) lm).trans cm1
              have lm := Nat.lt_of_lt_of_le lm hk1.size
              have cn0 := (hk1.cell (p := ⟨h2, 0, none⟩) ln).trans cn0
              have cn1 := (hk1.cell (p := ⟨h2, 1, none⟩) ln).trans cn1
              have ln := Nat.lt_of_lt_of_le ln hk1.size
              go_wp2_with fail
              refine (sub_c _ ml mh nl nh).mono ?_
              rintro e w2 ⟨rfl, hb2⟩
              rw [HS'.out]
              have hl2 := heap_last w1 (.cells #[.int .i64 rl, .int .i64 rh] 23)
              have hk2 : Below w1.heap.size w1 w2 := chain ((Below.refl _ _).alloc (Nat.le_refl _) (.cells #[.int .i64 rl, .int .i64 rh] 23)) hb2
              have hc2 := chain hc1 hk2
              have hz2 := hk2.size
              clear cp0 cp1 lp
              clear cq0 cq1 lq
              clear cm0 cm1 lm
              clear cn0 cn1 ln
              have cr0 : w2.cell? ⟨w1.heap.size, 0, none⟩ = some (.int .i64 rl) := cell_later hl2 hb2
              have cr1 : w2.cell? ⟨w1.heap.size, 1, none⟩ = some (.int .i64 rh) := cell_later hl2 hb2
              have lr := World.block_lt_of_cell? _ _ cr0
              clear hl2
              go_wp2_with fail
              refine (inside_ok _ _ _ _ _ hl1 hl2).mono ?_
              rintro e w3 ⟨rfl, hb3⟩
              have hl3 := heap_last w2 (.cells #[.int .i64 sl, .int .i64 sh] 23)
              have hk3 : Below w2.heap.size w2 w3 := chain ((Below.refl _ _).alloc (Nat.le_refl _) (.cells #[.int .i64 sl, .int .i64 sh] 23)) hb3
              have hc3 := chain hc2 hk3
              have hz3 := hk3.size
              have cr0 := (hk3.cell (p := ⟨w1.heap.size, 0, none⟩) lr).trans cr0
              have cr1 := (hk3.cell (p := ⟨w1.heap.size, 1, none⟩) lr).trans cr1
              have lr := Nat.lt_of_lt_of_le lr hk3.size
              have cs0 : w3.cell? ⟨w2.heap.size, 0, none⟩ = some (.int .i64 sl) := cell_later hl3 hb3
              have cs1 : w3.cell? ⟨w2.heap.size, 1, none⟩ = some (.int .i64 sh) := cell_later hl3 hb3
              have ls := World.block_lt_of_cell? _ _ cs0
              clear hl3
              go_wp2_with fail
              go_roundw
              case rel => exact ⟨2, by omega, by omega, (by first | rfl | go_num), hc3⟩
              case measure => first | (simp [intOf]; done) | (simp [intOf] <;> omega) | decide
        · as_aux_lemma =>
            have hi7 := idx7_2
            obtain ⟨r, hr⟩ : ∃ r, mulB a b c dd = r := ⟨_, rfl⟩
            obtain ⟨s, hs⟩ : ∃ s, mulB ml mh nl nh = s := ⟨_, rfl⟩
            have hsh := shrink_mul hp.out hq.out i1.out i2.out i3.out i4.out i5.out i6.out
            rw [hr, hs] at hsh
            have HR := Lib.hid hr
            have HS' := Lib.hid hs
            clear hr hs
            have hcase : r.e ≠ 0 ∨ (r.e = 0 ∧ s.e = 0 ∧ r.lo ≤ s.lo ∧ s.hi ≤ r.hi) := by
              by_cases he : r.e = 0
              · exact .inr ⟨he, (hsh he).1, (hsh he).2.1, (hsh he).2.2⟩
              · exact .inl he
            clear hsh
            rcases hcase with he | ⟨he, hse, hl1, hl2⟩
            · have he' : (r.e == 0) = false := by simp [he]
              obtain ⟨w0, rfl⟩ : ∃ x : World, x = wr := ⟨_, rfl⟩
              have hc0 := hbr
              have cp0 := (hbr.cell (p := ⟨g1, 0, none⟩) lg1).trans z1
              have cp1 := (hbr.cell (p := ⟨g1, 1, none⟩) lg1).trans z2
              have lp := World.block_lt_of_cell? _ _ cp0
              have cq0 := (hbr.cell (p := ⟨g2, 0, none⟩) lg2).trans z3
              have cq1 := (hbr.cell (p := ⟨g2, 1, none⟩) lg2).trans z4
              have lq := World.block_lt_of_cell? _ _ cq0
              have cm0 := (hbr.cell (p := ⟨h1, 0, none⟩) lh1).trans q1
              have cm1 := (hbr.cell (p := ⟨h1, 1, none⟩) lh1).trans q2
              have lm := World.block_lt_of_cell? _ _ cm0
              have cn0 := (hbr.cell (p := ⟨h2, 0, none⟩) lh2).trans q3
              have cn1 := (hbr.cell (p := ⟨h2, 1, none⟩) lh2).trans q4
              have ln := World.block_lt_of_cell? _ _ cn0
              go_wp2_with fail
              refine (mul_b _ a b c dd).mono ?_
              rintro e w1 ⟨rfl, hb1⟩
              rw [HR.out]
              have hk1 := hb1
              have hc1 := chain hc0 hk1
              have hz1 := hk1.size
              have cp0 := (hk1.cell (p := ⟨g1, 0, none⟩) lp).trans cp0
              have cp1 := (hk1.cell (p := ⟨g1, 1, none⟩) lp).trans cp1
              have lp := Nat.lt_of_lt_of_le lp hk1.size
              have cq0 := (hk1.cell (p := ⟨g2, 0, none⟩) lq).trans cq0
              have cq1 := (hk1.cell (p := ⟨g2, 1, none⟩) lq).trans cq1
              have lq := Nat.lt_of_lt_of_le lq hk1.size
              have cm0 := (hk1.cell (p := ⟨h1, 0, none⟩) lm).trans cm0
              have cm1 := (hk1.cell (p := ⟨h1, 1, none⟩) lm).trans cm1
              have lm := Nat.lt_of_lt_of_le lm hk1.size
              have cn0 := (hk1.cell (p := ⟨h2, 0, none⟩) ln).trans cn0
              have cn1 := (hk1.cell (p := ⟨h2, 1, none⟩) ln).trans cn1
              have ln := Nat.lt_of_lt_of_le ln hk1.size
              go_wp2_with fail
              refine (mul_b _ ml mh nl nh).mono ?_
              rintro e w2 ⟨rfl, hb2⟩
              rw [HS'.out]
              have hl2 := heap_last w1 (.cells #[.int .i64 r.lo, .int .i64 r.hi] 23)
              have hk2 : Below w1.heap.size w1 w2 := chain ((Below.refl _ _).alloc (Nat.le_refl _) (.cells #[.int .i64 r.lo, .int .i64 r.hi] 23)) hb2
              have hc2 := chain hc1 hk2
              have hz2 := hk2.size
              clear cp0 cp1 lp
              clear cq0 cq1 lq
              clear cm0 cm1 lm
              clear cn0 cn1 ln
              have cr0 : w2.cell? ⟨w1.heap.size, 0, none⟩ = some (.int .i64 r.lo) := cell_later hl2 hb2
              have cr1 : w2.cell? ⟨w1.heap.size, 1, none⟩ = some (.int .i64 r.hi) := cell_later hl2 hb2
              have lr := World.block_lt_of_cell? _ _ cr0
              clear hl2
              go_wp2_with fail
              go_roundw
              case rel => exact ⟨3, by omega, by omega, (by first | rfl | go_num), (hc2.alloc hc2.size _)⟩
              case measure => first | (simp [intOf]; done) | (simp [intOf] <;> omega) | decide
            · obtain ⟨rl, rh, rfl⟩ := BR.of_e he
              obtain ⟨sl, sh, rfl⟩ := BR.of_e hse
              simp only at hl1 hl2
              clear he hse
              obtain ⟨w0, rfl⟩ : ∃ x : World, x = wr := ⟨_, rfl⟩
              have hc0 := hbr
              have cp0 := (hbr.cell (p := ⟨g1, 0, none⟩) lg1).trans z1
              have cp1 := (hbr.cell (p := ⟨g1, 1, none⟩) lg1).trans z2
              have lp := World.block_lt_of_cell? _ _ cp0
              have cq0 := (hbr.cell (p := ⟨g2, 0, none⟩) lg2).trans z3
              have cq1 := (hbr.cell (p := ⟨g2, 1, none⟩) lg2).trans z4
              have lq := World.block_lt_of_cell? _ _ cq0
              have cm0 := (hbr.cell (p := ⟨h1, 0, none⟩) lh1).trans q1
              have cm1 := (hbr.cell (p := ⟨h1, 1, none⟩) lh1).trans q2
              have lm := World.block_lt_of_cell? _ _ cm0
              have cn0 := (hbr.cell (p := ⟨h2, 0, none⟩) lh2).trans q3
              have cn1 := (hbr.cell (p := ⟨h2, 1, none⟩) lh2).trans q4
              have ln := World.block_lt_of_cell? _ _ cn0
              go_wp2_with fail
              refine (mul_b _ a b c dd).mono ?_
              rintro e w1 ⟨rfl, hb1⟩
              rw [HR.out]
              have hk1 := hb1
              have hc1 := chain hc0 hk1
              have hz1 := hk1.size
              have cp0 := (hk1.cell (p := ⟨g1, 0, none⟩) lp).trans cp0
              have cp1 := (hk1.cell (p := ⟨g1, 1, none⟩) lp).trans cp1
              have lp := Nat.lt_of_lt_of_le lp hk1.size
              have cq0 := (hk1.cell (p := ⟨g2, 0, none⟩) lq).trans cq0
              have cq1 := (hk1.cell (p := ⟨g2, 1, none⟩) lq).trans cq1
              have lq := Nat.lt_of_lt_of_le lq hk1.size
              have cm0 := (hk1.cell (p := ⟨h1, 0, none⟩) lm).trans cm0
              have cm1 := (hk1.cell (p := ⟨h1, 1, none⟩) lm).trans cm1
              have lm := Nat.lt_of_lt_of_le lm hk1.size
              have cn0 := (hk1.cell (p := ⟨h2, 0, none⟩) ln).trans cn0
              have cn1 := (hk1.cell (p := ⟨h2, 1, none⟩) ln).trans cn1
              have ln := Nat.lt_of_lt_of_le ln hk1.size
              go_wp2_with fail
              refine (mul_b _ ml mh nl nh).mono ?_
              rintro e w2 ⟨rfl, hb2⟩
              rw [HS'.out]
              have hl2 := heap_last w1 (.cells #[.int .i64 rl, .int .i64 rh] 23)
              have hk2 : Below w1.heap.size w1 w2 := chain ((Below.refl _ _).alloc (Nat.le_refl _) (.cells #[.int .i64 rl, .int .i64 rh] 23)) hb2
              have hc2 := chain hc1 hk2
              have hz2 := hk2.size
              clear cp0 cp1 lp
              clear cq0 cq1 lq
              clear cm0 cm1 lm
              clear cn0 cn1 ln
              have cr0 : w2.cell? ⟨w1.heap.size, 0, none⟩ = some (.int .i64 rl) := cell_later hl2 hb2
              have cr1 : w2.cell? ⟨w1.heap.size, 1, none⟩ = some (.int .i64 rh) := cell_later hl2 hb2
              have lr := World.block_lt_of_cell? _ _ cr0
              clear hl2
              go_wp2_with fail
              refine (inside_ok _ _ _ _ _ hl1 hl2).mono ?_
              rintro e w3 ⟨rfl, hb3⟩
              have hl3 := heap_last w2 (.cells #[.int .i64 sl, .int .i64 sh] 23)
              have hk3 : Below w2.heap.size w2 w3 := chain ((Below.refl _ _).alloc (Nat.le_refl _) (.cells #[.int .i64 sl, .int .i64 sh] 23)) hb3
              have hc3 := chain hc2 hk3
              have hz3 := hk3.size
              have cr0 := (hk3.cell (p := ⟨w1.heap.size, 0, none⟩) lr).trans cr0
              have cr1 := (hk3.cell (p := ⟨w1.heap.size, 1, none⟩) lr).trans cr1
              have lr := Nat.lt_of_lt_of_le lr hk3.size
              have cs0 : w3.cell? ⟨w2.heap.size, 0, none⟩ = some (.int .i64 sl) := cell_later hl3 hb3
              have cs1 : w3.cell? ⟨w2.heap.size, 1, none⟩ = some (.int .i64 sh) := cell_later hl3 hb3
              have ls := World.block_lt_of_cell? _ _ cs0
              clear hl3
              go_wp2_with fail
              go_roundw
              case rel => exact ⟨3, by omega, by omega, (by first | rfl | go_num), hc3⟩
              case measure => first | (simp [intOf]; done) | (simp [intOf] <;> omega) | decide
        · as_aux_lemma =>
            have hi7 := idx7_3
            obtain ⟨r, hr⟩ : ∃ r, divB a b c dd = r := ⟨_, rfl⟩
            obtain ⟨s, hs⟩ : ∃ s, divB ml mh nl nh = s := ⟨_, rfl⟩
            have hsh := shrink_div hp.out hq.out i1.out i2.out i3.out i4.out i5.out i6.out
            rw [hr, hs] at hsh
            have HR := Lib.hid hr
            have HS' := Lib.hid hs
            clear hr hs
            have hcase : r.e ≠ 0 ∨ (r.e = 0 ∧ s.e = 0 ∧ r.lo ≤ s.lo ∧ s.hi ≤ r.hi) := by
              by_cases he : r.e = 0
              · exact .inr ⟨he, (hsh he).1, (hsh he).2.1, (hsh he).2.2⟩
              · exact .inl he
            clear hsh
            rcases hcase with he | ⟨he, hse, hl1, hl2⟩
            · have he' : (r.e == 0) = false := by simp [he]
              obtain ⟨w0, rfl⟩ : ∃ x : World, x = wr := ⟨_, rfl⟩
              have hc0 := hbr
              have cp0 := (hbr.cell (p := ⟨g1, 0, none⟩) lg1).trans z1
              have cp1 := (hbr.cell (p := ⟨g1, 1, none⟩) lg1).trans z2
              have lp := World.block_lt_of_cell? _ _ cp0
              have cq0 := (hbr.cell (p := ⟨g2, 0, none⟩) lg2).trans z3
              have cq1 := (hbr.cell (p := ⟨g2, 1, none⟩) lg2).trans z4
              have lq := World.block_lt_of_cell? _ _ cq0
              have cm0 := (hbr.cell (p := ⟨h1, 0, none⟩) lh1).trans q1
              have cm1 := (hbr.cell (p := ⟨h1, 1, none⟩) lh1).trans q2
              have lm := World.block_lt_of_cell? _ _ cm0
              have cn0 := (hbr.cell (p := ⟨h2, 0, none⟩) lh2).trans q3
              have cn1 := (hbr.cell (p := ⟨h2, 1, none⟩) lh2).trans q4
              have ln := World.block_lt_of_cell? _ _ cn0
              go_wp2_with fail
              refine (div_b _ a b c dd).mono ?_
              rintro e w1 ⟨rfl, hb1⟩
              rw [HR.out]
              have hk1 := hb1
              have hc1 := chain hc0 hk1
              have hz1 := hk1.size
              have cp0 := (hk1.cell (p := ⟨g1, 0, none⟩) lp).trans cp0
              have cp1 := (hk1.cell (p := ⟨g1, 1, none⟩) lp).trans cp1
              have lp := Nat.lt_of_lt_of_le lp hk1.size
              have cq0 := (hk1.cell (p := ⟨g2, 0, none⟩) lq).trans cq0
              have cq1 := (hk1.cell (p := ⟨g2, 1, none⟩) lq).trans cq1
              have lq := Nat.lt_of_lt_of_le lq hk1.size
              have cm0 := (hk1.cell (p := ⟨h1, 0, none⟩) lm).trans cm0
              have cm1 := (hk1.cell (p := ⟨h1, 1, none⟩) lm).trans cm1
              have lm := Nat.lt_of_lt_of_le lm hk1.size
              have cn0 := (hk1.cell (p := ⟨h2, 0, none⟩) ln).trans cn0
              have cn1 := (hk1.cell (p := ⟨h2, 1, none⟩) ln).trans cn1
              have ln := Nat.lt_of_lt_of_le ln hk1.size
              go_wp2_with fail
              refine (div_b _ ml mh nl nh).mono ?_
              rintro e w2 ⟨rfl, hb2⟩
              rw [HS'.out]
              have hl2 := heap_last w1 (.cells #[.int .i64 r.lo, .int .i64 r.hi] 23)
              have hk2 : Below w1.heap.size w1 w2 := chain ((Below.refl _ _).alloc (Nat.le_refl _) (.cells #[.int .i64 r.lo, .int .i64 r.hi] 23)) hb2
              have hc2 := chain hc1 hk2
              have hz2 := hk2.size
              clear cp0 cp1 lp
              clear cq0 cq1 lq
              clear cm0 cm1 lm
              clear cn0 cn1 ln
              have cr0 : w2.cell? ⟨w1.heap.size, 0, none⟩ = some (.int .i64 r.lo) := cell_later hl2 hb2
              have cr1 : w2.cell? ⟨w1.heap.size, 1, none⟩ = some (.int .i64 r.hi) := cell_later hl2 hb2
              have lr := World.block_lt_of_cell? _ _ cr0
              clear hl2
              go_wp2_with fail
              go_roundw
              case rel => exact ⟨4, by omega, by omega, (by first | rfl | go_num), (hc2.alloc hc2.size _)⟩
              case measure => first | (simp [intOf]; done) | (simp [intOf] <;> omega) | decide
            · obtain ⟨rl, rh, rfl⟩ := BR.of_e he
              obtain ⟨sl, sh, rfl⟩ := BR.of_e hse
              simp only at hl1 hl2
              clear he hse
              obtain ⟨w0, rfl⟩ : ∃ x : World, x = wr := ⟨_, rfl⟩
              have hc0 := hbr
              have cp0 := (hbr.cell (p := ⟨g1, 0, none⟩) lg1).trans z1
              have cp1 := (hbr.cell (p := ⟨g1, 1, none⟩) lg1).trans z2
              have lp := World.block_lt_of_cell? _ _ cp0
              have cq0 := (hbr.cell (p := ⟨g2, 0, none⟩) lg2).trans z3
              have cq1 := (hbr.cell (p := ⟨g2, 1, none⟩) lg2).trans z4
              have lq := World.block_lt_of_cell? _ _ cq0
              have cm0 := (hbr.cell (p := ⟨h1, 0, none⟩) lh1).trans q1
              have cm1 := (hbr.cell (p := ⟨h1, 1, none⟩) lh1).trans q2
              have lm := World.block_lt_of_cell? _ _ cm0
              have cn0 := (hbr.cell (p := ⟨h2, 0, none⟩) lh2).trans q3
              have cn1 := (hbr.cell (p := ⟨h2, 1, none⟩) lh2).trans q4
              have ln := World.block_lt_of_cell? _ _ cn0
              go_wp2_with fail
              refine (div_b _ a b c dd).mono ?_
              rintro e w1 ⟨rfl, hb1⟩
              rw [HR.out]
              have hk1 := hb1
              have hc1 := chain hc0 hk1
              have hz1 := hk1.size
              have cp0 := (hk1.cell (p := ⟨g1, 0, none⟩) lp).trans cp0
              have cp1 := (hk1.cell (p := ⟨g1, 1, none⟩) lp).trans cp1
              have lp := Nat.lt_of_lt_of_le lp hk1.size
              have cq0 := (hk1.cell (p := ⟨g2, 0, none⟩) lq).trans cq0
              have cq1 := (hk1.cell (p := ⟨g2, 1, none⟩) lq).trans cq1
              have lq := Nat.lt_of_lt_of_le lq hk1.size
              have cm0 := (hk1.cell (p := ⟨h1, 0, none⟩) lm).trans cm0
              have cm1 := (hk1.cell (p := ⟨h1, 1, none⟩) lm).trans cm1
              have lm := Nat.lt_of_lt_of_le lm hk1.size
              have cn0 := (hk1.cell (p := ⟨h2, 0, none⟩) ln).trans cn0
              have cn1 := (hk1.cell (p := ⟨h2, 1, none⟩) ln).trans cn1
              have ln := Nat.lt_of_lt_of_le ln hk1.size
              go_wp2_with fail
              refine (div_b _ ml mh nl nh).mono ?_
              rintro e w2 ⟨rfl, hb2⟩
              rw [HS'.out]
              have hl2 := heap_last w1 (.cells #[.int .i64 rl, .int .i64 rh] 23)
              have hk2 : Below w1.heap.size w1 w2 := chain ((Below.refl _ _).alloc (Nat.le_refl _) (.cells #[.int .i64 rl, .int .i64 rh] 23)) hb2
              have hc2 := chain hc1 hk2
              have hz2 := hk2.size
              clear cp0 cp1 lp
              clear cq0 cq1 lq
              clear cm0 cm1 lm
              clear cn0 cn1 ln
              have cr0 : w2.cell? ⟨w1.heap.size, 0, none⟩ = some (.int .i64 rl) := cell_later hl2 hb2
              have cr1 : w2.cell? ⟨w1.heap.size, 1, none⟩ = some (.int .i64 rh) := cell_later hl2 hb2
              have lr := World.block_lt_of_cell? _ _ cr0
              clear hl2
              go_wp2_with fail
              refine (inside_ok _ _ _ _ _ hl1 hl2).mono ?_
              rintro e w3 ⟨rfl, hb3⟩
              have hl3 := heap_last w2 (.cells #[.int .i64 sl, .int .i64 sh] 23)
              have hk3 : Below w2.heap.size w2 w3 := chain ((Below.refl _ _).alloc (Nat.le_refl _) (.cells #[.int .i64 sl, .int .i64 sh] 23)) hb3
              have hc3 := chain hc2 hk3
              have hz3 := hk3.size
              have cr0 := (hk3.cell (p := ⟨w1.heap.size, 0, none⟩) lr).trans cr0
              have cr1 := (hk3.cell (p := ⟨w1.heap.size, 1, none⟩) lr).trans cr1
              have lr := Nat.lt_of_lt_of_le lr hk3.size
              have cs0 : w3.cell? ⟨w2.heap.size, 0, none⟩ = some (.int .i64 sl) := cell_later hl3 hb3
              have cs1 : w3.cell? ⟨w2.heap.size, 1, none⟩ = some (.int .i64 sh) := cell_later hl3 hb3
              have ls := World.block_lt_of_cell? _ _ cs0
              clear hl3
              go_wp2_with fail
              go_roundw
              case rel => exact ⟨4, by omega, by omega, (by first | rfl | go_num), hc3⟩
              case measure => first | (simp [intOf]; done) | (simp [intOf] <;> omega) | decide
        · as_aux_lemma =>
            have hi7 := idx7_4
            obtain ⟨r, hr⟩ : ∃ r, minB a b c dd = r := ⟨_, rfl⟩
            obtain ⟨s, hs⟩ : ∃ s, minB ml mh nl nh = s := ⟨_, rfl⟩
            have hsh := shrink_min hp.out hq.out i1.out i2.out i3.out i4.out i5.out i6.out
            rw [hr, hs] at hsh
            have HR := Lib.hid hr
            have HS' := Lib.hid hs
            clear hr hs
            have hcase : r.e ≠ 0 ∨ (r.e = 0 ∧ s.e = 0 ∧ r.lo ≤ s.lo ∧ s.hi ≤ r.hi) := by
              by_cases he : r.e = 0
              · exact .inr ⟨he, (hsh he).1, (hsh he).2.1, (hsh he).2.2⟩
              · exact .inl he
            clear hsh
            rcases hcase with he | ⟨he, hse, hl1, hl2⟩
            · have he' : (r.e == 0) = false := by simp [he]
              obtain ⟨w0, rfl⟩ : ∃ x : World, x = wr := ⟨_, rfl⟩
              have hc0 := hbr
              have cp0 := (hbr.cell (p := ⟨g1, 0, none⟩) lg1).trans z1
              have cp1 := (hbr.cell (p := ⟨g1, 1, none⟩) lg1).trans z2
              have lp := World.block_lt_of_cell? _ _ cp0
              have cq0 := (hbr.cell (p := ⟨g2, 0, none⟩) lg2).trans z3
              have cq1 := (hbr.cell (p := ⟨g2, 1, none⟩) lg2).trans z4
              have lq := World.block_lt_of_cell? _ _ cq0
              have cm0 := (hbr.cell (p := ⟨h1, 0, none⟩) lh1).trans q1
              have cm1 := (hbr.cell (p := ⟨h1, 1, none⟩) lh1).trans q2
              have lm := World.block_lt_of_cell? _ _ cm0
              have cn0 := (hbr.cell (p := ⟨h2, 0, none⟩) lh2).trans q3
              have cn1 := (hbr.cell (p := ⟨h2, 1, none⟩) lh2).trans q4
              have ln := World.block_lt_of_cell? _ _ cn0
              go_wp2_with fail
              refine (min_b _ a b c dd).mono ?_
              rintro e w1 ⟨rfl, hb1⟩
              rw [HR.out]
              have hk1 := hb1
              have hc1 := chain hc0 hk1
              have hz1 := hk1.size
              have cp0 := (hk1.cell (p := ⟨g1, 0, none⟩) lp).trans cp0
              have cp1 := (hk1.cell (p := ⟨g1, 1, none⟩) lp).trans cp1
              have lp := Nat.lt_of_lt_of_le lp hk1.size
              have cq0 := (hk1.cell (p := ⟨g2, 0, none⟩) lq).trans cq0
              have cq1 := (hk1.cell (p := ⟨g2, 1, none⟩) lq).trans cq1
              have lq := Nat.lt_of_lt_of_le lq hk1.size
              have cm0 := (hk1.cell (p := ⟨h1, 0, none⟩) lm).trans cm0
              have cm1 := (hk1.cell (p := ⟨h1, 1, none⟩) lm).trans cm1
              have lm := Nat.lt_of_lt_of_le lm hk1.size
              have cn0 := (hk1.cell (p := ⟨h2, 0, none⟩) ln).trans cn0
              have cn1 := (hk1.cell (p := ⟨h2, 1, none⟩) ln).trans cn1
              have ln := Nat.lt_of_lt_of_le ln hk1.size
              go_wp2_with fail
              refine (min_b _ ml mh nl nh).mono ?_
              rintro e w2 ⟨rfl, hb2⟩
              rw [HS'.out]
              have hl2 := heap_last w1 (.cells #[.int .i64 r.lo, .int .i64 r.hi] 23)
              have hk2 : Below w1.heap.size w1 w2 := chain ((Below.refl _ _).alloc (Nat.le_refl _) (.cells #[.int .i64 r.lo, .int .i64 r.hi] 23)) hb2
              have hc2 := chain hc1 hk2
              have hz2 := hk2.size
              clear cp0 cp1 lp
              clear cq0 cq1 lq
              clear cm0 cm1 lm
              clear cn0 cn1 ln
              have cr0 : w2.cell? ⟨w1.heap.size, 0, none⟩ = some (.int .i64 r.lo) := cell_later hl2 hb2
              have cr1 : w2.cell? ⟨w1.heap.size, 1, none⟩ = some (.int .i64 r.hi) := cell_later hl2 hb2
              have lr := World.block_lt_of_cell? _ _ cr0
              clear hl2
              go_wp2_with fail
              go_roundw
              case rel => exact ⟨5, by omega, by omega, (by first | rfl | go_num), (hc2.alloc hc2.size _)⟩
              case measure => first | (simp [intOf]; done) | (simp [intOf] <;> omega) | decide
            · obtain ⟨rl, rh, rfl⟩ := BR.of_e he
              obtain ⟨sl, sh, rfl⟩ := BR.of_e hse
              simp only at hl1 hl2
              clear he hse
              obtain ⟨w0, rfl⟩ : ∃ x : World, x = wr := ⟨_, rfl⟩
              have hc0 := hbr
              have cp0 := (hbr.cell (p := ⟨g1, 0, none⟩) lg1).trans z1
              have cp1 := (hbr.cell (p := ⟨g1, 1, none⟩) lg1).trans z2
              have lp := World.block_lt_of_cell? _ _ cp0
              have cq0 := (hbr.cell (p := ⟨g2, 0, none⟩) lg2).trans z3
              have cq1 := (hbr.cell (p := ⟨g2, 1, none⟩) lg2).trans z4
              have lq := World.block_lt_of_cell? _ _ cq0
              have cm0 := (hbr.cell (p := ⟨h1, 0, none⟩) lh1).trans q1
              have cm1 := (hbr.cell (p := ⟨h1, 1, none⟩) lh1).trans q2
              have lm := World.block_lt_of_cell? _ _ cm0
              have cn0 := (hbr.cell (p := ⟨h2, 0, none⟩) lh2).trans q3
              have cn1 := (hbr.cell (p := ⟨h2, 1, none⟩) lh2).trans q4
              have ln := World.block_lt_of_cell? _ _ cn0
              go_wp2_with fail
              refine (min_b _ a b c dd).mono ?_
              rintro e w1 ⟨rfl, hb1⟩
              rw [HR.out]
              have hk1 := hb1
              have hc1 := chain hc0 hk1
              have hz1 := hk1.size
              have cp0 := (hk1.cell (p := ⟨g1, 0, none⟩) lp).trans cp0
              have cp1 := (hk1.cell (p := ⟨g1, 1, none⟩) lp).trans cp1
              have lp := Nat.lt_of_lt_of_le lp hk1.size
              have cq0 := (hk1.cell (p := ⟨g2, 0, none⟩) lq).trans cq0
              have cq1 := (hk1.cell (p := ⟨g2, 1, none⟩) lq).trans cq1
              have lq := Nat.lt_of_lt_of_le lq hk1.size
              have cm0 := (hk1.cell (p := ⟨h1, 0, none⟩) lm).trans cm0
              have cm1 := (hk1.cell (p := ⟨h1, 1, none⟩) lm).trans cm1
              have lm := Nat.lt_of_lt_of_le lm hk1.size
              have cn0 := (hk1.cell (p := ⟨h2, 0, none⟩) ln).trans cn0
              have cn1 := (hk1.cell (p := ⟨h2, 1, none⟩) ln).trans cn1
              have ln := Nat.lt_of_lt_of_le ln hk1.size
              go_wp2_with fail
              refine (min_b _ ml mh nl nh).mono ?_
              rintro e w2 ⟨rfl, hb2⟩
              rw [HS'.out]
              have hl2 := heap_last w1 (.cells #[.int .i64 rl, .int .i64 rh] 23)
              have hk2 : Below w1.heap.size w1 w2 := chain ((Below.refl _ _).alloc (Nat.le_refl _) (.cells #[.int .i64 rl, .int .i64 rh] 23)) hb2
              have hc2 := chain hc1 hk2
              have hz2 := hk2.size
              clear cp0 cp1 lp
              clear cq0 cq1 lq
              clear cm0 cm1 lm
              clear cn0 cn1 ln
              have cr0 : w2.cell? ⟨w1.heap.size, 0, none⟩ = some (.int .i64 rl) := cell_later hl2 hb2
              have cr1 : w2.cell? ⟨w1.heap.size, 1, none⟩ = some (.int .i64 rh) := cell_later hl2 hb2
              have lr := World.block_lt_of_cell? _ _ cr0
              clear hl2
              go_wp2_with fail
              refine (inside_ok _ _ _ _ _ hl1 hl2).mono ?_
              rintro e w3 ⟨rfl, hb3⟩
              have hl3 := heap_last w2 (.cells #[.int .i64 sl, .int .i64 sh] 23)
              have hk3 : Below w2.heap.size w2 w3 := chain ((Below.refl _ _).alloc (Nat.le_refl _) (.cells #[.int .i64 sl, .int .i64 sh] 23)) hb3
              have hc3 := chain hc2 hk3
              have hz3 := hk3.size
              have cr0 := (hk3.cell (p := ⟨w1.heap.size, 0, none⟩) lr).trans cr0
              have cr1 := (hk3.cell (p := ⟨w1.heap.size, 1, none⟩) lr).trans cr1
              have lr := Nat.lt_of_lt_of_le lr hk3.size
              have cs0 : w3.cell? ⟨w2.heap.size, 0, none⟩ = some (.int .i64 sl) := cell_later hl3 hb3
              have cs1 : w3.cell? ⟨w2.heap.size, 1, none⟩ = some (.int .i64 sh) := cell_later hl3 hb3
              have ls := World.block_lt_of_cell? _ _ cs0
              clear hl3
              go_wp2_with fail
              go_roundw
              case rel => exact ⟨5, by omega, by omega, (by first | rfl | go_num), hc3⟩
              case measure => first | (simp [intOf]; done) | (simp [intOf] <;> omega) | decide
        · as_aux_lemma =>
            have hi7 := idx7_5
            obtain ⟨r, hr⟩ : ∃ r, maxB a b c dd = r := ⟨_, rfl⟩
            obtain ⟨s, hs⟩ : ∃ s, maxB ml mh nl nh = s := ⟨_, rfl⟩
            have hsh := shrink_max hp.out hq.out i1.out i2.out i3.out i4.out i5.out i6.out
            rw [hr, hs] at hsh
            have HR := Lib.hid hr
            have HS' := Lib.hid hs
            clear hr hs
            have hcase : r.e ≠ 0 ∨ (r.e = 0 ∧ s.e = 0 ∧ r.lo ≤ s.lo ∧ s.hi ≤ r.hi) := by
              by_cases he : r.e = 0
              · exact .inr ⟨he, (hsh he).1, (hsh he).2.1, (hsh he).2.2⟩
              · exact .inl he
            clear hsh
            rcases hcase with he | ⟨he, hse, hl1, hl2⟩
            · have he' : (r.e == 0) = false := by simp [he]
              obtain ⟨w0, rfl⟩ : ∃ x : World, x = wr := ⟨_, rfl⟩
              have hc0 := hbr
              have cp0 := (hbr.cell (p := ⟨g1, 0, none⟩) lg1).trans z1
              have cp1 := (hbr.cell (p := ⟨g1, 1, none⟩) lg1).trans z2
              have lp := World.block_lt_of_cell? _ _ cp0
              have cq0 := (hbr.cell (p := ⟨g2, 0, none⟩) lg2).trans z3
              have cq1 := (hbr.cell (p := ⟨g2, 1, none⟩) lg2).trans z4
              have lq := World.block_lt_of_cell? _ _ cq0
              have cm0 := (hbr.cell (p := ⟨h1, 0, none⟩) lh1).trans q1
              have cm1 := (hbr.cell (p := ⟨h1, 1, none⟩) lh1).trans q2
              have lm := World.block_lt_of_cell? _ _ cm0
              have cn0 := (hbr.cell (p := ⟨h2, 0, none⟩) lh2).trans q3
              have cn1 := (hbr.cell (p := ⟨h2, 1, none⟩) lh2).trans q4
              have ln := World.block_lt_of_cell? _ _ cn0
              go_wp2_with fail
              refine (max_b _ a b c dd).mono ?_
              rintro e w1 ⟨rfl, hb1⟩
              rw [HR.out]
              have hk1 := hb1
              have hc1 := chain hc0 hk1
              have hz1 := hk1.size
              have cp0 := (hk1.cell (p := ⟨g1, 0, none⟩) lp).trans cp0
              have cp1 := (hk1.cell (p := ⟨g1, 1, none⟩) lp).trans cp1
              have lp := Nat.lt_of_lt_of_le lp hk1.size
              have cq0 := (hk1.cell (p := ⟨g2, 0, none⟩) lq).trans cq0
              have cq1 := (hk1.cell (p := ⟨g2, 1, none⟩) lq).trans cq1
              have lq := Nat.lt_of_lt_of_le lq hk1.size
              have cm0 := (hk1.cell (p := ⟨h1, 0, none⟩) lm).trans cm0
              have cm1 := (hk1.cell (p := ⟨h1, 1, none⟩) lm).trans cm1
              have lm := Nat.lt_of_lt_of_le lm hk1.size
              have cn0 := (hk1.cell (p := ⟨h2, 0, none⟩) ln).trans cn0
              have cn1 := (hk1.cell (p := ⟨h2, 1, none⟩) ln).trans cn1
              have ln := Nat.lt_of_lt_of_le ln hk1.size
              go_wp2_with fail
              refine (max_b _ ml mh nl nh).mono ?_
              rintro e w2 ⟨rfl, hb2⟩
              rw [HS'.out]
              have hl2 := heap_last w1 (.cells #[.int .i64 r.lo, .int .i64 r.hi] 23)
              have hk2 : Below w1.heap.size w1 w2 := chain ((Below.refl _ _).alloc (Nat.le_refl _) (.cells #[.int .i64 r.lo, .int .i64 r.hi] 23)) hb2
              have hc2 := chain hc1 hk2
              have hz2 := hk2.size
              clear cp0 cp1 lp
              clear cq0 cq1 lq
              clear cm0 cm1 lm
              clear cn0 cn1 ln
              have cr0 : w2.cell? ⟨w1.heap.size, 0, none⟩ = some (.int .i64 r.lo) := cell_later hl2 hb2
              have cr1 : w2.cell? ⟨w1.heap.size, 1, none⟩ = some (.int .i64 r.hi) := cell_later hl2 hb2
              have lr := World.block_lt_of_cell? _ _ cr0
              clear hl2
              go_wp2_with fail
              go_roundw
              case rel => exact ⟨6, by omega, by omega, (by first | rfl | go_num), (hc2.alloc hc2.size _)⟩
              case measure => first | (simp [intOf]; done) | (simp [intOf] <;> omega) | decide
            · obtain ⟨rl, rh, rfl⟩ := BR.of_e he
              obtain ⟨sl, sh, rfl⟩ := BR.of_e hse
              simp only at hl1 hl2
              clear he hse
              obtain ⟨w0, rfl⟩ : ∃ x : World, x = wr := ⟨_, rfl⟩
              have hc0 := hbr
              have cp0 := (hbr.cell (p := ⟨g1, 0, none⟩) lg1).trans z1
              have cp1 := (hbr.cell (p := ⟨g1, 1, none⟩) lg1).trans z2
              have lp := World.block_lt_of_cell? _ _ cp0
              have cq0 := (hbr.cell (p := ⟨g2, 0, none⟩) lg2).trans z3
              have cq1 := (hbr.cell (p := ⟨g2, 1, none⟩) lg2).trans z4
              have lq := World.block_lt_of_cell? _ _ cq0
              have cm0 := (hbr.cell (p := ⟨h1, 0, none⟩) lh1).trans q1
              have cm1 := (hbr.cell (p := ⟨h1, 1, none⟩) lh1).trans q2
              have lm := World.block_lt_of_cell? _ _ cm0
              have cn0 := (hbr.cell (p := ⟨h2, 0, none⟩) lh2).trans q3
              have cn1 := (hbr.cell (p := ⟨h2, 1, none⟩) lh2).trans q4
              have ln := World.block_lt_of_cell? _ _ cn0
              go_wp2_with fail
              refine (max_b _ a b c dd).mono ?_
              rintro e w1 ⟨rfl, hb1⟩
              rw [HR.out]
              have hk1 := hb1
              have hc1 := chain hc0 hk1
              have hz1 := hk1.size
              have cp0 := (hk1.cell (p := ⟨g1, 0, none⟩) lp).trans cp0
              have cp1 := (hk1.cell (p := ⟨g1, 1, none⟩) lp).trans cp1
              have lp := Nat.lt_of_lt_of_le lp hk1.size
              have cq0 := (hk1.cell (p := ⟨g2, 0, none⟩) lq).trans cq0
              have cq1 := (hk1.cell (p := ⟨g2, 1, none⟩) lq).trans cq1
              have lq := Nat.lt_of_lt_of_le lq hk1.size
              have cm0 := (hk1.cell (p := ⟨h1, 0, none⟩) lm).trans cm0
              have cm1 := (hk1.cell (p := ⟨h1, 1, none⟩) lm).trans cm1
              have lm := Nat.lt_of_lt_of_le lm hk1.size
              have cn0 := (hk1.cell (p := ⟨h2, 0, none⟩) ln).trans cn0
              have cn1 := (hk1.cell (p := ⟨h2, 1, none⟩) ln).trans cn1
              have ln := Nat.lt_of_lt_of_le ln hk1.size
              go_wp2_with fail
              refine (max_b _ ml mh nl nh).mono ?_
              rintro e w2 ⟨rfl, hb2⟩
              rw [HS'.out]
              have hl2 := heap_last w1 (.cells #[.int .i64 rl, .int .i64 rh] 23)
              have hk2 : Below w1.heap.size w1 w2 := chain ((Below.refl _ _).alloc (Nat.le_refl _) (.cells #[.int .i64 rl, .int .i64 rh] 23)) hb2
              have hc2 := chain hc1 hk2
              have hz2 := hk2.size
              clear cp0 cp1 lp
              clear cq0 cq1 lq
              clear cm0 cm1 lm
              clear cn0 cn1 ln
              have cr0 : w2.cell? ⟨w1.heap.size, 0, none⟩ = some (.int .i64 rl) := cell_later hl2 hb2
              have cr1 : w2.cell? ⟨w1.heap.size, 1, none⟩ = some (.int .i64 rh) := cell_later hl2 hb2
              have lr := World.block_lt_of_cell? _ _ cr0
              clear hl2
              go_wp2_with fail
              refine (inside_ok _ _ _ _ _ hl1 hl2).mono ?_
              rintro e w3 ⟨rfl, hb3⟩
              have hl3 := heap_last w2 (.cells #[.int .i64 sl, .int .i64 sh] 23)
              have hk3 : Below w2.heap.size w2 w3 := chain ((Below.refl _ _).alloc (Nat.le_refl _) (.cells #[.int .i64 sl, .int .i64 sh] 23)) hb3
              have hc3 := chain hc2 hk3
              have hz3 := hk3.size
              have cr0 := (hk3.cell (p := ⟨w1.heap.size, 0, none⟩) lr).trans cr0
              have cr1 := (hk3.cell (p := ⟨w1.heap.size, 1, none⟩) lr).trans cr1
              have lr := Nat.lt_of_lt_of_le lr hk3.size
              have cs0 : w3.cell? ⟨w2.heap.size, 0, none⟩ = some (.int .i64 sl) := cell_later hl3 hb3
              have cs1 : w3.cell? ⟨w2.heap.size, 1, none⟩ = some (.int .i64 sh) := cell_later hl3 hb3
              have ls := World.block_lt_of_cell? _ _ cs0
              clear hl3
              go_wp2_with fail
              go_roundw
              case rel => exact ⟨6, by omega, by omega, (by first | rfl | go_num), hc3⟩
              case measure => first | (simp [intOf]; done) | (simp [intOf] <;> omega) | decide
        · as_aux_lemma =>
            have hi7 := idx7_6
            obtain ⟨r, hr⟩ : ∃ r, hullB a b c dd = r := ⟨_, rfl⟩
            obtain ⟨s, hs⟩ : ∃ s, hullB ml mh nl nh = s := ⟨_, rfl⟩
            have hsh := shrink_hull hp.out hq.out i1.out i2.out i3.out i4.out i5.out i6.out
            rw [hr, hs] at hsh
            have HR := Lib.hid hr
            have HS' := Lib.hid hs
            clear hr hs
            have hcase : r.e ≠ 0 ∨ (r.e = 0 ∧ s.e = 0 ∧ r.lo ≤ s.lo ∧ s.hi ≤ r.hi) := by
              by_cases he : r.e = 0
              · exact .inr ⟨he, (hsh he).1, (hsh he).2.1, (hsh he).2.2⟩
              · exact .inl he
            clear hsh
            rcases hcase with he | ⟨he, hse, hl1, hl2⟩
            · have he' : (r.e == 0) = false := by simp [he]
              obtain ⟨w0, rfl⟩ : ∃ x : World, x = wr := ⟨_, rfl⟩
              have hc0 := hbr
              have cp0 := (hbr.cell (p := ⟨g1, 0, none⟩) lg1).trans z1
              have cp1 := (hbr.cell (p := ⟨g1, 1, none⟩) lg1).trans z2
              have lp := World.block_lt_of_cell? _ _ cp0
              have cq0 := (hbr.cell (p := ⟨g2, 0, none⟩) lg2).trans z3
              have cq1 := (hbr.cell (p := ⟨g2, 1, none⟩) lg2).trans z4
              have lq := World.block_lt_of_cell? _ _ cq0
              have cm0 := (hbr.cell (p := ⟨h1, 0, none⟩) lh1).trans q1
              have cm1 := (hbr.cell (p := ⟨h1, 1, none⟩) lh1).trans q2
              have lm := World.block_lt_of_cell? _ _ cm0
              have cn0 := (hbr.cell (p := ⟨h2, 0, none⟩) lh2).trans q3
              have cn1 := (hbr.cell (p := ⟨h2, 1, none⟩) lh2).trans q4
              have ln := World.block_lt_of_cell? _ _ cn0
              go_wp2_with fail
              refine (hull_b _ a b c dd).mono ?_
              rintro e w1 ⟨rfl, hb1⟩
              rw [HR.out]
              have hk1 := hb1
              have hc1 := chain hc0 hk1
              have hz1 := hk1.size
              have cp0 := (hk1.cell (p := ⟨g1, 0, none⟩) lp).trans cp0
              have cp1 := (hk1.cell (p := ⟨g1, 1, none⟩) lp).trans cp1
              have lp := Nat.lt_of_lt_of_le lp hk1.size
              have cq0 := (hk1.cell (p := ⟨g2, 0, none⟩) lq).trans cq0
              have cq1 := (hk1.cell (p := ⟨g2, 1, none⟩) lq).trans cq1
              have lq := Nat.lt_of_lt_of_le lq hk1.size
              have cm0 := (hk1.cell (p := ⟨h1, 0, none⟩) lm).trans cm0
              have cm1 := (hk1.cell (p := ⟨h1, 1, none⟩) lm).trans cm1
              have lm := Nat.lt_of_lt_of_le lm hk1.size
              have cn0 := (hk1.cell (p := ⟨h2, 0, none⟩) ln).trans cn0
              have cn1 := (hk1.cell (p := ⟨h2, 1, none⟩) ln).trans cn1
              have ln := Nat.lt_of_lt_of_le ln hk1.size
              go_wp2_with fail
              refine (hull_b _ ml mh nl nh).mono ?_
              rintro e w2 ⟨rfl, hb2⟩
              rw [HS'.out]
              have hl2 := heap_last w1 (.cells #[.int .i64 r.lo, .int .i64 r.hi] 23)
              have hk2 : Below w1.heap.size w1 w2 := chain ((Below.refl _ _).alloc (Nat.le_refl _) (.cells #[.int .i64 r.lo, .int .i64 r.hi] 23)) hb2
              have hc2 := chain hc1 hk2
              have hz2 := hk2.size
              clear cp0 cp1 lp
              clear cq0 cq1 lq
              clear cm0 cm1 lm
              clear cn0 cn1 ln
              have cr0 : w2.cell? ⟨w1.heap.size, 0, none⟩ = some (.int .i64 r.lo) := cell_later hl2 hb2
              have cr1 : w2.cell? ⟨w1.heap.size, 1, none⟩ = some (.int .i64 r.hi) := cell_later hl2 hb2
              have lr := World.block_lt_of_cell? _ _ cr0
              clear hl2
              go_wp2_with fail
              go_roundw
              case rel => exact ⟨7, by omega, by omega, (by first | rfl | go_num), (hc2.alloc hc2.size _)⟩
              case measure => first | (simp [intOf]; done) | (simp [intOf] <;> omega) | decide
            · obtain ⟨rl, rh, rfl⟩ := BR.of_e he
              obtain ⟨sl, sh, rfl⟩ := BR.of_e hse
              simp only at hl1 hl2
              clear he hse
              obtain ⟨w0, rfl⟩ : ∃ x : World, x = wr := ⟨_, rfl⟩
              have hc0 := hbr
              have cp0 := (hbr.cell (p := ⟨g1, 0, none⟩) lg1).trans z1
              have cp1 := (hbr.cell (p := ⟨g1, 1, none⟩) lg1).trans z2
              have lp := World.block_lt_of_cell? _ _ cp0
              have cq0 := (hbr.cell (p := ⟨g2, 0, none⟩) lg2).trans z3
              have cq1 := (hbr.cell (p := ⟨g2, 1, none⟩) lg2).trans z4
              have lq := World.block_lt_of_cell? _ _ cq0
              have cm0 := (hbr.cell (p := ⟨h1, 0, none⟩) lh1).trans q1
              have cm1 := (hbr.cell (p := ⟨h1, 1, none⟩) lh1).trans q2
              have lm := World.block_lt_of_cell? _ _ cm0
              have cn0 := (hbr.cell (p := ⟨h2, 0, none⟩) lh2).trans q3
              have cn1 := (hbr.cell (p := ⟨h2, 1, none⟩) lh2).trans q4
              have ln := World.block_lt_of_cell? _ _ cn0
              go_wp2_with fail
              refine (hull_b _ a b c dd).mono ?_
              rintro e w1 ⟨rfl, hb1⟩
              rw [HR.out]
              have hk1 := hb1
              have hc1 := chain hc0 hk1
              have hz1 := hk1.size
              have cp0 := (hk1.cell (p := ⟨g1, 0, none⟩) lp).trans cp0
              have cp1 := (hk1.cell (p := ⟨g1, 1, none⟩) lp).trans cp1
              have lp := Nat.lt_of_lt_of_le lp hk1.size
              have cq0 := (hk1.cell (p := ⟨g2, 0, none⟩) lq).trans cq0
              have cq1 := (hk1.cell (p := ⟨g2, 1, none⟩) lq).trans cq1
              have lq := Nat.lt_of_lt_of_le lq hk1.size
              have cm0 := (hk1.cell (p := ⟨h1, 0, none⟩) lm).trans cm0
              have cm1 := (hk1.cell (p := ⟨h1, 1, none⟩) lm).trans cm1
              have lm := Nat.lt_of_lt_of_le lm hk1.size
              have cn0 := (hk1.cell (p := ⟨h2, 0, none⟩) ln).trans cn0
              have cn1 := (hk1.cell (p := ⟨h2, 1, none⟩) ln).trans cn1
              have ln := Nat.lt_of_lt_of_le ln hk1.size
              go_wp2_with fail
              refine (hull_b _ ml mh nl nh).mono ?_
              rintro e w2 ⟨rfl, hb2⟩
              rw [HS'.out]
              have hl2 := heap_last w1 (.cells #[.int .i64 rl, .int .i64 rh] 23)
              have hk2 : Below w1.heap.size w1 w2 := chain ((Below.refl _ _).alloc (Nat.le_refl _) (.cells #[.int .i64 rl, .int .i64 rh] 23)) hb2
              have hc2 := chain hc1 hk2
              have hz2 := hk2.size
              clear cp0 cp1 lp
              clear cq0 cq1 lq
              clear cm0 cm1 lm
              clear cn0 cn1 ln
              have cr0 : w2.cell? ⟨w1.heap.size, 0, none⟩ = some (.int .i64 rl) := cell_later hl2 hb2
              have cr1 : w2.cell? ⟨w1.heap.size, 1, none⟩ = some (.int .i64 rh) := cell_later hl2 hb2
              have lr := World.block_lt_of_cell? _ _ cr0
              clear hl2
              go_wp2_with fail
              refine (inside_ok _ _ _ _ _ hl1 hl2).mono ?_
              rintro e w3 ⟨rfl, hb3⟩
              have hl3 := heap_last w2 (.cells #[.int .i64 sl, .int .i64 sh] 23)
              have hk3 : Below w2.heap.size w2 w3 := chain ((Below.refl _ _).alloc (Nat.le_refl _) (.cells #[.int .i64 sl, .int .i64 sh] 23)) hb3
              have hc3 := chain hc2 hk3
              have hz3 := hk3.size
              have cr0 := (hk3.cell (p := ⟨w1.heap.size, 0, none⟩) lr).trans cr0
              have cr1 := (hk3.cell (p := ⟨w1.heap.size, 1, none⟩) lr).trans cr1
              have lr := Nat.lt_of_lt_of_le lr hk3.size
              have cs0 : w3.cell? ⟨w2.heap.size, 0, none⟩ = some (.int .i64 sl) := cell_later hl3 hb3
              have cs1 : w3.cell? ⟨w2.heap.size, 1, none⟩ = some (.int .i64 sh) := cell_later hl3 hb3
              have ls := World.block_lt_of_cell? _ _ cs0
              clear hl3
              go_wp2_with fail
              go_roundw
              case rel => exact ⟨7, by omega, by omega, (by first | rfl | go_num), hc3⟩
              case measure => first | (simp [intOf]; done) | (simp [intOf] <;> omega) | decide
        · go_wp2
          go_ret
          exact ⟨rfl, chain hWE hbr⟩

end Go.Proofs.YtkajibniibjblaaGreatDoor
