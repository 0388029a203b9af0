/-
  BandClamps: the walk.
-/
import Derived.Test.YtkajibniibjblaaGreatDoorDrafts
import Derived.Test.YtkajibniibjblaaGreatDoorWorks2
import Derived.Test.YtkajibniibjblaaGreatDoorFracA
namespace Go.Proofs.YtkajibniibjblaaGreatDoor
open Go.RowKit
set_option maxRecDepth 100000

theorem BR.of_e {r : BR} (h : r.e = 0) : ∃ x y, r = ⟨x, y, 0⟩ := by
  rcases r with ⟨x, y, e⟩
  simp only at h
  exact ⟨x, y, by rw [h]⟩

set_option maxHeartbeats 3000000 in
theorem clamps_walk (w : World) (henv : Env2 w) (ax ux ay uy n d : Int) (hx0 : -9223372036854775808 ≤ ax) (hx1 : ax ≤ 9223372036854775807) (hx2 : 0 ≤ ux) (hx3 : ux ≤ 4294967295) (hy0 : -9223372036854775808 ≤ ay) (hy1 : ay ≤ 9223372036854775807) (hy2 : 0 ≤ uy) (hy3 : uy ≤ 4294967295) (hn0 : 0 ≤ n) (hn1 : n ≤ 65535) (hd0 : 0 ≤ d) (hd1' : d ≤ 65535) :
    Calls Tryz.prog 4 #[.agg #[.int .i64 ax, .int .u32 ux], .agg #[.int .i64 ay, .int .u32 uy], .int .u16 n, .int .u16 d] w fun e w' => e = .returned (.bool true) ∧ Below w.heap.size w w' := by
  have hW : Below w.heap.size w ((w.alloc (.cells #[.int .i64 ax, .int .u32 ux] 26)).alloc (.cells #[.int .i64 ay, .int .u32 uy] 26)) := (((Below.refl w.heap.size w).alloc (Nat.le_refl _) _).alloc (by simp <;> omega) _)
  have o1 := heap_more (heap_last w (.cells #[.int .i64 ax, .int .u32 ux] 26)) (.cells #[.int .i64 ay, .int .u32 uy] 26)
  have O1 := Lib.hid o1
  clear o1
  have o2 := heap_last (w.alloc (.cells #[.int .i64 ax, .int .u32 ux] 26)) (.cells #[.int .i64 ay, .int .u32 uy] 26)
  rw [show (w.alloc (.cells #[.int .i64 ax, .int .u32 ux] 26)).heap.size = w.heap.size + 1 by simp] at o2
  have O2 := Lib.hid o2
  clear o2
  have hsz : ((w.alloc (.cells #[.int .i64 ax, .int .u32 ux] 26)).alloc (.cells #[.int .i64 ay, .int .u32 uy] 26)).heap.size = w.heap.size + 1 + 1 := by simp
  have HSZ := Lib.hid hsz
  clear hsz
  have HE := Lib.hid (henv.below hW)
  clear henv
  go_enter Tryz.func4, Tryz.ntmps4
  go_wp2_with fail
  refine (works_any _ HE.out).mono ?_
  rintro e w1 ⟨rfl, hbw⟩
  have hW1 := chain hW hbw
  have OX := Lib.hid (blk_later O1.out hbw)
  have OY := Lib.hid (blk_later O2.out hbw)
  have HS : Hid (∀ w', Below w1.heap.size w1 w' → w'.cell? ⟨w.heap.size, 0, none⟩ = some (.int .i64 ax) ∧ w'.cell? ⟨w.heap.size, 1, none⟩ = some (.int .u32 ux) ∧ w'.cell? ⟨w.heap.size + 1, 0, none⟩ = some (.int .i64 ay) ∧ w'.cell? ⟨w.heap.size + 1, 1, none⟩ = some (.int .u32 uy)) := fun w' h => ⟨cell_later OX.out h, cell_later OX.out h, cell_later OY.out h, cell_later OY.out h⟩
  go_upto_region 3 with fail
  go_cut [9, 10] (fun p1 p2 wx => ∃ g1 g2 a b c d, p1 = .pointer (some ⟨g1, 0, none⟩) ∧ p2 = .pointer (some ⟨g2, 0, none⟩) ∧ Hid (SmallB a b) ∧ Hid (SmallB c d) ∧ wx.cell? ⟨g1, 0, none⟩ = some (.int .i64 a) ∧ wx.cell? ⟨g1, 1, none⟩ = some (.int .i64 b) ∧ wx.cell? ⟨g2, 0, none⟩ = some (.int .i64 c) ∧ wx.cell? ⟨g2, 1, none⟩ = some (.int .i64 d) ∧ Below w1.heap.size w1 wx)
  case first =>
    go_region_held3 (fun w' => w'.cell? ⟨w.heap.size, 0, none⟩ = some (.int .i64 ax) ∧ w'.cell? ⟨w.heap.size, 1, none⟩ = some (.int .u32 ux) ∧ w'.cell? ⟨w.heap.size + 1, 0, none⟩ = some (.int .i64 ay) ∧ w'.cell? ⟨w.heap.size + 1, 1, none⟩ = some (.int .u32 uy))
      ((refine HS.out _ ?_; repeat (first | with_reducible exact Below.refl _ _ | with_reducible exact hd1 | with_reducible exact hd2 | (with_reducible refine Below.setCell ?_ (by first | omega | (simp <;> omega)) _) | (with_reducible refine Below.alloc ?_ (by first | omega | (simp <;> omega)) _) | with_reducible refine Below.drew ?_)))
      (first
        | (go_at_call 20; (fail_if_success (have hq := hP1)); (refine (small_any _ ax ux hx0 hx1 hx2 hx3).mono ?_); rintro e v1 ⟨a, b, rfl, hP1, hb1⟩; have hcl1 := (bcell hb1).1; have hfr1 := (bcell hb1).2; have hs1 := hb1.size; (try simp at hs1); have hd1 : Below w1.heap.size w1 v1 := (by refine Below.trans ?_ (hb1.mono (by first | omega | (simp <;> omega))); repeat (first | with_reducible exact Below.refl _ _ | with_reducible exact hd1 | with_reducible exact hd2 | (with_reducible refine Below.setCell ?_ (by first | omega | (simp <;> omega)) _) | (with_reducible refine Below.alloc ?_ (by first | omega | (simp <;> omega)) _) | with_reducible refine Below.drew ?_)); (try have ht0 : w1.heap.size < v1.heap.size := by omega); (try have ht1 : w1.heap.size + 1 < v1.heap.size := by omega))
        | (go_at_call 20; (refine (small_any _ ay uy hy0 hy1 hy2 hy3).mono ?_); rintro e v2 ⟨c, d, rfl, hP2, hb2⟩; have hcl2 := (bcell hb2).1; have hfr2 := (bcell hb2).2; have hs2 := hb2.size; (try simp at hs2); have hd2 : Below w1.heap.size w1 v2 := (by refine Below.trans ?_ (hb2.mono (by first | omega | (simp <;> omega))); repeat (first | with_reducible exact Below.refl _ _ | with_reducible exact hd1 | with_reducible exact hd2 | (with_reducible refine Below.setCell ?_ (by first | omega | (simp <;> omega)) _) | (with_reducible refine Below.alloc ?_ (by first | omega | (simp <;> omega)) _) | with_reducible refine Below.drew ?_)); (try have hu0 : v1.heap.size < v2.heap.size := by omega); (try have hu1 : v1.heap.size + 1 < v2.heap.size := by omega); (try have hu2 : w1.heap.size < v2.heap.size := by omega); (try have hu3 : w1.heap.size + 1 < v2.heap.size := by omega); (try have hu4 : w1.heap.size < v1.heap.size + 1 := by omega); (try have hu5 : w1.heap.size + 1 < v1.heap.size + 1 := by omega)))
    all_goals (
      go_wp2_with fail
      go_meet
      refine ⟨_, _, a, b, c, d, rfl, rfl, hP1, hP2, ?_, ?_, ?_, ?_, ?_⟩
      · first | (go_simp; done) | (go_simp; refine World.cell?_setCell_same (u := .int .i64 0) _ _ _ ?_; go_simp; done) | (go_simp; refine (World.cell?_setCell_other _ _ _ _ (by simp <;> omega)).trans ?_; go_simp; done)
      · first | (go_simp; done) | (go_simp; refine World.cell?_setCell_same (u := .int .i64 0) _ _ _ ?_; go_simp; done) | (go_simp; refine (World.cell?_setCell_other _ _ _ _ (by simp <;> omega)).trans ?_; go_simp; done)
      · first | (go_simp; done) | (go_simp; refine World.cell?_setCell_same (u := .int .i64 0) _ _ _ ?_; go_simp; done) | (go_simp; refine (World.cell?_setCell_other _ _ _ _ (by simp <;> omega)).trans ?_; go_simp; done)
      · first | (go_simp; done) | (go_simp; refine World.cell?_setCell_same (u := .int .i64 0) _ _ _ ?_; go_simp; done) | (go_simp; refine (World.cell?_setCell_other _ _ _ _ (by simp <;> omega)).trans ?_; go_simp; done)
      · repeat (first | with_reducible exact Below.refl _ _ | with_reducible exact hd1 | with_reducible exact hd2 | (with_reducible refine Below.setCell ?_ (by first | omega | (simp <;> omega)) _) | (with_reducible refine Below.alloc ?_ (by first | omega | (simp <;> omega)) _) | with_reducible refine Below.drew ?_))
  case rest =>
    obtain ⟨g1, g2, a, b, c, dd, rfl, rfl, hP, hQ, z1, z2, z3, z4, hbc⟩ := hcut
    have hp := hP.out
    have hq := hQ.out
    obtain ⟨x, y, e1, hi1, hi2, e2, e3⟩ := clamp_in hp.ok hq.ok
    have k0 : 1 ≤ 1 + n % 50000 := by have := Int.emod_nonneg n (show (50000 : Int) ≠ 0 by decide); omega
    have k1 : 1 + n % 50000 ≤ 50000 := by have := Int.emod_lt_of_pos n (show (0 : Int) < 50000 by decide); omega
    have k2 : 1 ≤ 1 + d % 50000 := by have := Int.emod_nonneg d (show (50000 : Int) ≠ 0 by decide); omega
    have k3 : 1 + d % 50000 ≤ 50000 := by have := Int.emod_lt_of_pos d (show (0 : Int) < 50000 by decide); omega
    obtain ⟨f1, f2, f3, f4, f5⟩ := scl_law hp.1 hp.2.1 hp.2.2 k0 k1 k2 k3
    obtain ⟨s1, s2, hs1⟩ := BR.of_e f1
    rw [hs1] at f2 f3 f4
    obtain ⟨t1, t2, hs2⟩ := BR.of_e f2
    rw [hs2] at f3 f4
    have hi3 : t1 ≤ a := f3
    have hi4 : b ≤ t2 := f4
    have HC := Lib.hid e1
    have HS1 := Lib.hid hs1
    have HS2 := Lib.hid hs2
    have HS3 := Lib.hid f5
    have hm := meet_in hp.ok hq.ok
    clear f1 f2 f3 f4 f5 hs1 hs2 e1 k0 k1 k2 k3 hp hq
    rcases hm with ⟨hm, _⟩ | ⟨hm, _⟩
    · have HM := Lib.hid (e2 (by rw [hm]))
      clear hm e2 e3
      obtain ⟨w0, rfl⟩ : ∃ x : World, x = wc := ⟨_, rfl⟩
      have hc0 := chain hW1 hbc
      have cp0 := z1
      have cp1 := z2
      have lp := World.block_lt_of_cell? _ _ cp0
      have cq0 := z3
      have cq1 := z4
      have lq := World.block_lt_of_cell? _ _ cq0
      go_wp2_with fail
      refine (clamp_c _ a b c dd).mono ?_
      rintro e w1 ⟨rfl, hb1⟩
      rw [HC.out]
      have hk1 := hb1
      have hc1 := chain hc0 hk1
      have hz1 := hk1.size
      have cp0 := (hk1.cell (p := ⟨g1, 0, none⟩) lp).trans cp0
      have cp1 := (hk1.cell (p := ⟨g1, 1, none⟩) lp).trans cp1
      have lp := Nat.lt_of_lt_of_le lp hk1.size
      have cq0 := (hk1.cell (p := ⟨g2, 0, none⟩) lq).trans cq0
      have cq1 := (hk1.cell (p := ⟨g2, 1, none⟩) lq).trans cq1
      have lq := Nat.lt_of_lt_of_le lq hk1.size
      go_wp2_with fail
      refine (meet_b _ a b c dd).mono ?_
      rintro e w2 ⟨rfl, hb2⟩
      rw [HM.out]
      have hl2 := heap_last w1 (.cells #[.int .i64 x, .int .i64 y] 23)
      have hk2 : Below w1.heap.size w1 w2 := chain ((Below.refl _ _).alloc (Nat.le_refl _) (.cells #[.int .i64 x, .int .i64 y] 23)) hb2
      have hc2 := chain hc1 hk2
      have hz2 := hk2.size
      have cp0 := (hk2.cell (p := ⟨g1, 0, none⟩) lp).trans cp0
      have cp1 := (hk2.cell (p := ⟨g1, 1, none⟩) lp).trans cp1
      have lp := Nat.lt_of_lt_of_le lp hk2.size
      have cq0 := (hk2.cell (p := ⟨g2, 0, none⟩) lq).trans cq0
      have cq1 := (hk2.cell (p := ⟨g2, 1, none⟩) lq).trans cq1
      have lq := Nat.lt_of_lt_of_le lq hk2.size
      have cc0 : w2.cell? ⟨w1.heap.size, 0, none⟩ = some (.int .i64 x) := cell_later hl2 hb2
      have cc1 : w2.cell? ⟨w1.heap.size, 1, none⟩ = some (.int .i64 y) := cell_later hl2 hb2
      have lc := World.block_lt_of_cell? _ _ cc0
      clear hl2
      go_wp2_with fail
      refine (inside_ok _ _ _ _ _ hi1 hi2).mono ?_
      rintro e w3 ⟨rfl, hb3⟩
      have hl3 := heap_last w2 (.cells #[.int .i64 x, .int .i64 y] 23)
      have hk3 : Below w2.heap.size w2 w3 := chain ((Below.refl _ _).alloc (Nat.le_refl _) (.cells #[.int .i64 x, .int .i64 y] 23)) hb3
      have hc3 := chain hc2 hk3
      have hz3 := hk3.size
      have cp0 := (hk3.cell (p := ⟨g1, 0, none⟩) lp).trans cp0
      have cp1 := (hk3.cell (p := ⟨g1, 1, none⟩) lp).trans cp1
      have lp := Nat.lt_of_lt_of_le lp hk3.size
      have cq0 := (hk3.cell (p := ⟨g2, 0, none⟩) lq).trans cq0
      have cq1 := (hk3.cell (p := ⟨g2, 1, none⟩) lq).trans cq1
      have lq := Nat.lt_of_lt_of_le lq hk3.size
      have cc0 := (hk3.cell (p := ⟨w1.heap.size, 0, none⟩) lc).trans cc0
      have cc1 := (hk3.cell (p := ⟨w1.heap.size, 1, none⟩) lc).trans cc1
      have lc := Nat.lt_of_lt_of_le lc hk3.size
      have cm0 : w3.cell? ⟨w2.heap.size, 0, none⟩ = some (.int .i64 x) := cell_later hl3 hb3
      have cm1 : w3.cell? ⟨w2.heap.size, 1, none⟩ = some (.int .i64 y) := cell_later hl3 hb3
      have lm := World.block_lt_of_cell? _ _ cm0
      clear hl3
      go_wp2_with fail
      refine (scl_c _ a b (1 + n % 50000) (1 + d % 50000)).mono ?_
      rintro e w4 ⟨rfl, hb4⟩
      rw [HS1.out]
      have hk4 := hb4
      have hc4 := chain hc3 hk4
      have hz4 := hk4.size
      have cp0 := (hk4.cell (p := ⟨g1, 0, none⟩) lp).trans cp0
      have cp1 := (hk4.cell (p := ⟨g1, 1, none⟩) lp).trans cp1
      have lp := Nat.lt_of_lt_of_le lp hk4.size
      clear cq0 cq1 lq
      clear cc0 cc1 lc
      clear cm0 cm1 lm
      go_wp2_with fail
      refine (scl_c _ s1 s2 (1 + d % 50000) (1 + n % 50000)).mono ?_
      rintro e w5 ⟨rfl, hb5⟩
      rw [HS2.out]
      have hl5 := heap_last w4 (.cells #[.int .i64 s1, .int .i64 s2] 23)
      have hk5 : Below w4.heap.size w4 w5 := chain ((Below.refl _ _).alloc (Nat.le_refl _) (.cells #[.int .i64 s1, .int .i64 s2] 23)) hb5
      have hc5 := chain hc4 hk5
      have hz5 := hk5.size
      have cp0 := (hk5.cell (p := ⟨g1, 0, none⟩) lp).trans cp0
      have cp1 := (hk5.cell (p := ⟨g1, 1, none⟩) lp).trans cp1
      have lp := Nat.lt_of_lt_of_le lp hk5.size
      have cs0 : w5.cell? ⟨w4.heap.size, 0, none⟩ = some (.int .i64 s1) := cell_later hl5 hb5
      have cs1 : w5.cell? ⟨w4.heap.size, 1, none⟩ = some (.int .i64 s2) := cell_later hl5 hb5
      have ls := World.block_lt_of_cell? _ _ cs0
      clear hl5
      go_wp2_with fail
      refine (scl_c _ a b (1 + n % 50000) (1 + n % 50000)).mono ?_
      rintro e w6 ⟨rfl, hb6⟩
      rw [HS3.out]
      have hl6 := heap_last w5 (.cells #[.int .i64 t1, .int .i64 t2] 23)
      have hk6 : Below w5.heap.size w5 w6 := chain ((Below.refl _ _).alloc (Nat.le_refl _) (.cells #[.int .i64 t1, .int .i64 t2] 23)) hb6
      have hc6 := chain hc5 hk6
      have hz6 := hk6.size
      have cp0 := (hk6.cell (p := ⟨g1, 0, none⟩) lp).trans cp0
      have cp1 := (hk6.cell (p := ⟨g1, 1, none⟩) lp).trans cp1
      have lp := Nat.lt_of_lt_of_le lp hk6.size
      clear cs0 cs1 ls
      have ct0 : w6.cell? ⟨w5.heap.size, 0, none⟩ = some (.int .i64 t1) := cell_later hl6 hb6
      have ct1 : w6.cell? ⟨w5.heap.size, 1, none⟩ = some (.int .i64 t2) := cell_later hl6 hb6
      have lt := World.block_lt_of_cell? _ _ ct0
      clear hl6
      go_wp2_with fail
      refine (inside_ok _ _ _ _ _ hi3 hi4).mono ?_
      rintro e w7 ⟨rfl, hb7⟩
      have hl7 := heap_last w6 (.cells #[.int .i64 a, .int .i64 b] 23)
      have hk7 : Below w6.heap.size w6 w7 := chain ((Below.refl _ _).alloc (Nat.le_refl _) (.cells #[.int .i64 a, .int .i64 b] 23)) hb7
      have hc7 := chain hc6 hk7
      have hz7 := hk7.size
      have cp0 := (hk7.cell (p := ⟨g1, 0, none⟩) lp).trans cp0
      have cp1 := (hk7.cell (p := ⟨g1, 1, none⟩) lp).trans cp1
      have lp := Nat.lt_of_lt_of_le lp hk7.size
      have ct0 := (hk7.cell (p := ⟨w5.heap.size, 0, none⟩) lt).trans ct0
      have ct1 := (hk7.cell (p := ⟨w5.heap.size, 1, none⟩) lt).trans ct1
      have lt := Nat.lt_of_lt_of_le lt hk7.size
      have cu0 : w7.cell? ⟨w6.heap.size, 0, none⟩ = some (.int .i64 a) := cell_later hl7 hb7
      have cu1 : w7.cell? ⟨w6.heap.size, 1, none⟩ = some (.int .i64 b) := cell_later hl7 hb7
      have lu := World.block_lt_of_cell? _ _ cu0
      clear hl7
      go_wp2
      go_ret
      exact ⟨rfl, hc7⟩
    · have hxy := e3 (by rw [hm]; rfl)
      have HM : Hid (meetB a b c dd = ⟨0, 0, 4⟩) := hm
      clear hm e2 e3
      subst hxy
      obtain ⟨w0, rfl⟩ : ∃ x : World, x = wc := ⟨_, rfl⟩
      have hc0 := chain hW1 hbc
      have cp0 := z1
      have cp1 := z2
      have lp := World.block_lt_of_cell? _ _ cp0
      have cq0 := z3
      have cq1 := z4
      have lq := World.block_lt_of_cell? _ _ cq0
      go_wp2_with fail
      refine (clamp_c _ a b c dd).mono ?_
      rintro e w1 ⟨rfl, hb1⟩
      rw [HC.out]
      have hk1 := hb1
      have hc1 := chain hc0 hk1
      have hz1 := hk1.size
      have cp0 := (hk1.cell (p := ⟨g1, 0, none⟩) lp).trans cp0
      have cp1 := (hk1.cell (p := ⟨g1, 1, none⟩) lp).trans cp1
      have lp := Nat.lt_of_lt_of_le lp hk1.size
      have cq0 := (hk1.cell (p := ⟨g2, 0, none⟩) lq).trans cq0
      have cq1 := (hk1.cell (p := ⟨g2, 1, none⟩) lq).trans cq1
      have lq := Nat.lt_of_lt_of_le lq hk1.size
      go_wp2_with fail
      refine (meet_b _ a b c dd).mono ?_
      rintro e w2 ⟨rfl, hb2⟩
      rw [HM.out]
      have hl2 := heap_last w1 (.cells #[.int .i64 x, .int .i64 x] 23)
      have hk2 : Below w1.heap.size w1 w2 := chain ((Below.refl _ _).alloc (Nat.le_refl _) (.cells #[.int .i64 x, .int .i64 x] 23)) hb2
      have hc2 := chain hc1 hk2
      have hz2 := hk2.size
      have cp0 := (hk2.cell (p := ⟨g1, 0, none⟩) lp).trans cp0
      have cp1 := (hk2.cell (p := ⟨g1, 1, none⟩) lp).trans cp1
      have lp := Nat.lt_of_lt_of_le lp hk2.size
      have cq0 := (hk2.cell (p := ⟨g2, 0, none⟩) lq).trans cq0
      have cq1 := (hk2.cell (p := ⟨g2, 1, none⟩) lq).trans cq1
      have lq := Nat.lt_of_lt_of_le lq hk2.size
      have cc0 : w2.cell? ⟨w1.heap.size, 0, none⟩ = some (.int .i64 x) := cell_later hl2 hb2
      have cc1 : w2.cell? ⟨w1.heap.size, 1, none⟩ = some (.int .i64 x) := cell_later hl2 hb2
      have lc := World.block_lt_of_cell? _ _ cc0
      clear hl2
      go_wp2_with fail
      refine (inside_ok _ _ _ _ _ hi1 hi2).mono ?_
      rintro e w3 ⟨rfl, hb3⟩
      have hl3 := heap_last w2 (.cells #[.int .i64 0, .int .i64 0] 23)
      have hk3 : Below w2.heap.size w2 w3 := chain ((Below.refl _ _).alloc (Nat.le_refl _) (.cells #[.int .i64 0, .int .i64 0] 23)) hb3
      have hc3 := chain hc2 hk3
      have hz3 := hk3.size
      have cp0 := (hk3.cell (p := ⟨g1, 0, none⟩) lp).trans cp0
      have cp1 := (hk3.cell (p := ⟨g1, 1, none⟩) lp).trans cp1
      have lp := Nat.lt_of_lt_of_le lp hk3.size
      have cq0 := (hk3.cell (p := ⟨g2, 0, none⟩) lq).trans cq0
      have cq1 := (hk3.cell (p := ⟨g2, 1, none⟩) lq).trans cq1
      have lq := Nat.lt_of_lt_of_le lq hk3.size
      have cc0 := (hk3.cell (p := ⟨w1.heap.size, 0, none⟩) lc).trans cc0
      have cc1 := (hk3.cell (p := ⟨w1.heap.size, 1, none⟩) lc).trans cc1
      have lc := Nat.lt_of_lt_of_le lc hk3.size
      have cm0 : w3.cell? ⟨w2.heap.size, 0, none⟩ = some (.int .i64 0) := cell_later hl3 hb3
      have cm1 : w3.cell? ⟨w2.heap.size, 1, none⟩ = some (.int .i64 0) := cell_later hl3 hb3
      have lm := World.block_lt_of_cell? _ _ cm0
      clear hl3
      go_wp2_with fail
      refine (scl_c _ a b (1 + n % 50000) (1 + d % 50000)).mono ?_
      rintro e w4 ⟨rfl, hb4⟩
      rw [HS1.out]
      have hk4 := hb4
      have hc4 := chain hc3 hk4
      have hz4 := hk4.size
      have cp0 := (hk4.cell (p := ⟨g1, 0, none⟩) lp).trans cp0
      have cp1 := (hk4.cell (p := ⟨g1, 1, none⟩) lp).trans cp1
      have lp := Nat.lt_of_lt_of_le lp hk4.size
      clear cq0 cq1 lq
      clear cc0 cc1 lc
      clear cm0 cm1 lm
      go_wp2_with fail
      refine (scl_c _ s1 s2 (1 + d % 50000) (1 + n % 50000)).mono ?_
      rintro e w5 ⟨rfl, hb5⟩
      rw [HS2.out]
      have hl5 := heap_last w4 (.cells #[.int .i64 s1, .int .i64 s2] 23)
      have hk5 : Below w4.heap.size w4 w5 := chain ((Below.refl _ _).alloc (Nat.le_refl _) (.cells #[.int .i64 s1, .int .i64 s2] 23)) hb5
      have hc5 := chain hc4 hk5
      have hz5 := hk5.size
      have cp0 := (hk5.cell (p := ⟨g1, 0, none⟩) lp).trans cp0
      have cp1 := (hk5.cell (p := ⟨g1, 1, none⟩) lp).trans cp1
      have lp := Nat.lt_of_lt_of_le lp hk5.size
      have cs0 : w5.cell? ⟨w4.heap.size, 0, none⟩ = some (.int .i64 s1) := cell_later hl5 hb5
      have cs1 : w5.cell? ⟨w4.heap.size, 1, none⟩ = some (.int .i64 s2) := cell_later hl5 hb5
      have ls := World.block_lt_of_cell? _ _ cs0
      clear hl5
      go_wp2_with fail
      refine (scl_c _ a b (1 + n % 50000) (1 + n % 50000)).mono ?_
      rintro e w6 ⟨rfl, hb6⟩
      rw [HS3.out]
      have hl6 := heap_last w5 (.cells #[.int .i64 t1, .int .i64 t2] 23)
      have hk6 : Below w5.heap.size w5 w6 := chain ((Below.refl _ _).alloc (Nat.le_refl _) (.cells #[.int .i64 t1, .int .i64 t2] 23)) hb6
      have hc6 := chain hc5 hk6
      have hz6 := hk6.size
      have cp0 := (hk6.cell (p := ⟨g1, 0, none⟩) lp).trans cp0
      have cp1 := (hk6.cell (p := ⟨g1, 1, none⟩) lp).trans cp1
      have lp := Nat.lt_of_lt_of_le lp hk6.size
      clear cs0 cs1 ls
      have ct0 : w6.cell? ⟨w5.heap.size, 0, none⟩ = some (.int .i64 t1) := cell_later hl6 hb6
      have ct1 : w6.cell? ⟨w5.heap.size, 1, none⟩ = some (.int .i64 t2) := cell_later hl6 hb6
      have lt := World.block_lt_of_cell? _ _ ct0
      clear hl6
      go_wp2_with fail
      refine (inside_ok _ _ _ _ _ hi3 hi4).mono ?_
      rintro e w7 ⟨rfl, hb7⟩
      have hl7 := heap_last w6 (.cells #[.int .i64 a, .int .i64 b] 23)
      have hk7 : Below w6.heap.size w6 w7 := chain ((Below.refl _ _).alloc (Nat.le_refl _) (.cells #[.int .i64 a, .int .i64 b] 23)) hb7
      have hc7 := chain hc6 hk7
      have hz7 := hk7.size
      have cp0 := (hk7.cell (p := ⟨g1, 0, none⟩) lp).trans cp0
      have cp1 := (hk7.cell (p := ⟨g1, 1, none⟩) lp).trans cp1
      have lp := Nat.lt_of_lt_of_le lp hk7.size
      have ct0 := (hk7.cell (p := ⟨w5.heap.size, 0, none⟩) lt).trans ct0
      have ct1 := (hk7.cell (p := ⟨w5.heap.size, 1, none⟩) lt).trans ct1
      have lt := Nat.lt_of_lt_of_le lt hk7.size
      have cu0 : w7.cell? ⟨w6.heap.size, 0, none⟩ = some (.int .i64 a) := cell_later hl7 hb7
      have cu1 : w7.cell? ⟨w6.heap.size, 1, none⟩ = some (.int .i64 b) := cell_later hl7 hb7
      have lu := World.block_lt_of_cell? _ _ cu0
      clear hl7
      go_wp2
      go_ret
      exact ⟨rfl, hc7⟩

end Go.Proofs.YtkajibniibjblaaGreatDoor
