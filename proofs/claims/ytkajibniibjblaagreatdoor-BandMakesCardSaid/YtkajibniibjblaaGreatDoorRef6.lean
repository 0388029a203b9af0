/-
  ref01's Draft.Whole.
  ref02's Draft.Frac: two texts.
-/
import Derived.Test.YtkajibniibjblaaGreatDoorRef5
namespace Go.Proofs.YtkajibniibjblaaGreatDoor.P4
open Go.RowKit
set_option maxRecDepth 100000

theorem step_bound {z dd : Int} {j : Nat} (h0 : 0 ≤ z) (h1 : z.natAbs < 1000 ^ j) (d0 : 0 ≤ dd) (d1 : dd < 1000) : 0 ≤ z * 1000 + dd ∧ (z * 1000 + dd).natAbs < 1000 ^ (j + 1) := by
  rw [Nat.pow_succ]
  omega
theorem end_bound {z : Int} {j k : Nat} (h : z.natAbs < 1000 ^ j) (hj : j ≤ 12) : (z * 10 ^ k).natAbs < 1000 ^ 12 * 10 ^ k := by
  rw [Int.natAbs_mul, Int.natAbs_pow]
  have h1 : (1000 : Nat) ^ j ≤ 1000 ^ 12 := Nat.pow_le_pow_right (by decide) hj
  have h2 : 0 < (10 : Nat) ^ k := Nat.pow_pos (by decide)
  exact Nat.mul_lt_mul_of_pos_right (Nat.lt_of_lt_of_le h h1) h2
theorem sign_of {bl : Bool} {x zz : Int} (h : (if bl = true then -x else x) = zz) (h0 : 0 ≤ x) : x.natAbs ≠ 0 → bl = decide (zz < 0) := by
  intro hne
  cases bl with
  | true => rw [if_pos rfl] at h; rw [eq_comm, decide_eq_true_iff]; omega
  | false => rw [if_neg (by decide)] at h; rw [eq_comm, decide_eq_false_iff_not]; omega
set_option maxHeartbeats 40000000 in
theorem whole_any (w : World) (bl : Bool) (A : Option Addr) (n c : Nat) (y : Int) (xs : List Int) (hx : Rd w .u16 A n c xs) (hk : ∀ x ∈ xs, 0 ≤ x ∧ x ≤ 65535) (hy0 : 0 ≤ y) (_hy1 : y ≤ 65535) :
    Calls Tryz.prog 78 #[.agg #[.bool bl, .slice A n c, .int .u16 y]] w fun e w' => ∃ z : Int, e = .returned (.string (toldS z)) ∧ Hid (z.natAbs < 1000 ^ 12 * 10 ^ (y % 501).toNat) ∧ Below w.heap.size w w' := by
  have hW : Below w.heap.size w (w.alloc (.cells #[.bool bl, .slice A n c, .int .u16 y] 54)) := ((Below.refl w.heap.size w).alloc (Nat.le_refl _) _)
  have o1 := heap_last w (.cells #[.bool bl, .slice A n c, .int .u16 y] 54)
  have O1 := Lib.hid o1
  clear o1
  have hsz : (w.alloc (.cells #[.bool bl, .slice A n c, .int .u16 y] 54)).heap.size = w.heap.size + 1 := by simp
  have HSZ := Lib.hid hsz
  clear hsz
  obtain ⟨wB, hwB⟩ : ∃ x, (w.alloc (.cells #[.bool bl, .slice A n c, .int .u16 y] 54)) = x := ⟨_, rfl⟩
  rw [hwB] at hW HSZ O1
  have hx1 := Lib.hid (hx.below hW)
  have HK := Lib.hid hk
  clear hx hk
  go_enter Tryz.func78, Tryz.ntmps78
  go_wp2_with fail
  try rw [hwB]
  refine (integer_any _ 0 (by decide) (by decide)).mono ?_
  rintro e w1 ⟨b1, A1, l1, c1, rfl, hs1, hA1, hb1⟩
  have hn0 : Num2 (w1.alloc (.cells #[.bool b1, .slice A1 l1 c1] 102)) w1.heap.size 5 0 b1 A1 l1 c1 := Num2.new hs1 hA1
  have hW1 := chain hW hb1
  have hz1 := hb1.size
  rw [HSZ.out] at hz1
  obtain ⟨wz, hwz⟩ : ∃ x, w1.alloc (.cells #[.bool b1, .slice A1 l1 c1] 102) = x := ⟨_, rfl⟩
  have hbz : Below w1.heap.size w1 wz := by rw [← hwz]; exact (Below.refl _ _).alloc (Nat.le_refl _) _
  rw [hwz] at hn0
  obtain ⟨g, hg⟩ : ∃ g, w1.heap.size = g := ⟨_, rfl⟩
  rw [hg] at hn0 hbz
  have HG := Lib.hid hg
  clear hA1 hs1
  go_wp2_with fail
  try rw [hg]
  go_loopw [4] (fun iv wr => ∃ (j : Nat) (z : Int) (b : Bool) (A' : Option Addr) (l c' : Nat), j ≤ n ∧ j ≤ 12 ∧ iv = .int .i64 (j : Int) ∧ Num2 wr g (5 + 6 * j) z b A' l c' ∧ Hid (0 ≤ z ∧ z.natAbs < 1000 ^ j) ∧ Below g w1 wr) (fun iv _ => 12 - (intOf iv).toNat)
  case atStart => exact ⟨0, 0, b1, A1, l1, c1, Nat.zero_le _, Nat.zero_le _, rfl, hn0, Lib.hid ⟨Int.le_refl _, by decide⟩, hbz⟩
  case round =>
    obtain ⟨j, z, b, A', l, c', hj, hj12, rfl, hnum, hzb, hbr⟩ := hrel
    obtain ⟨h0, h1, f0, f1, hno, hsb, hmb⟩ := hnum
    have HNM : Hid (Num2 wr g (5 + 6 * j) z b A' l c') := ⟨h0, h1, f0, f1, hno, hsb, hmb⟩
    have HMB := Lib.hid hmb
    have hgw : w1.heap.size = g := HG.out
    have hbr1 : Below w1.heap.size w1 wr := by rw [hgw]; exact hbr
    have hcr := chain hb1 hbr1
    have x0 := cell_later (j := 0) O1.out hcr
    have x1 := cell_later (j := 1) O1.out hcr
    have x2 := cell_later (j := 2) O1.out hcr
    simp at x0 x1 x2
    clear hno hmb hgw
    have hjn : (j : Int) ≤ (n : Int) := by omega
    have hnn := hx1.out.cap
    have hnm := hx1.out.most
    by_cases hjl : j < n
    · by_cases hjk : j < 12
      · obtain ⟨bA, oA, x, rfl, hxk, hbA, hcA⟩ := hx1.out.get (j := j) hjl
        have hcA := (hcr.cell (p := ⟨bA, oA + j, none⟩) hbA).trans hcA
        have hxx := HK.out x (List.mem_of_getElem? hxk)
        have hx0 := hxx.1
        have hx2 := hxx.2
        clear hxx hxk
        go_wp2_with fail
        obtain ⟨dd, hdd⟩ : ∃ dd : Int, x % 1000 = dd := ⟨_, rfl⟩
        have hd9 : 0 ≤ dd ∧ dd < 1000 := by omega
        have HD : Hid (IntKind.i64.wrap (x.tmod 1000) = dd) := by show _ = _; rw [Int.tmod_eq_emod_of_nonneg hx0, IntKind.wrap_i64, hdd]; first | omega | (unfold wrap64; omega)
        clear hdd
        have hd0 : Below wr.heap.size wr wr.drew := (Below.refl _ _).drew
        have ltg : g < wr.heap.size := World.block_lt_of_cell? _ _ h0
        have ltw : w.heap.size < wr.heap.size := World.block_lt_of_cell? _ _ x0
        have hbz1 := hb1.size
        have hg2 : w1.heap.size = g := HG.out
        have hgl : g ≤ wr.heap.size := by omega
        have hwg : w.heap.size < g := by omega
        have hbg : bA < g := by omega
        clear hg2 hbz1
        have HS : Hid (∀ w', Below g wr w' → w'.cell? ⟨w.heap.size, 1, none⟩ = some (.slice (some ⟨bA, oA, none⟩) n c) ∧ w'.cell? ⟨bA, oA + j, none⟩ = some (.int .u16 x)) := fun w' h => ⟨(h.cell (p := ⟨w.heap.size, 1, none⟩) hwg).trans x1, (h.cell (p := ⟨bA, oA + j, none⟩) hbg).trans hcA⟩
        obtain ⟨g3, g4⟩ := HS.out _ (Below.refl _ _)
        go_region_with (first
            | (go_at_call 79; (fail_if_success (have hq := hd1)); (refine (integer_any _ 1000 (by decide) (by decide)).mono ?_); rintro e v1 ⟨b2, A2, l2, c2, rfl, hs2, hA2, hy1'⟩; have hd1 := chain hd0 hy1'; have s10 := (hd1.cell (p := ⟨g, 0, none⟩) ltg).trans h0; have s11 := (hd1.cell (p := ⟨g, 1, none⟩) ltg).trans h1; obtain ⟨s12, s13⟩ := HS.out _ (hd1.mono hgl))
            | (go_at_call 124; (fail_if_success (have hq := hd2)); (refine (ptimes_any _ b A' l c' z hsb (HMB.out.below hd1) b2 A2 l2 c2 1000 hs2 hA2 (by omega) (by decide)).mono ?_); rintro e v2 ⟨b3, A3, l3, c3, rfl, hs3, hA3, hy2⟩; have hd2 := chain hd1 hy2; have s20 := (hd2.cell (p := ⟨g, 0, none⟩) ltg).trans h0; have s21 := (hd2.cell (p := ⟨g, 1, none⟩) ltg).trans h1; obtain ⟨s22, s23⟩ := HS.out _ (hd2.mono hgl))
            | (go_at_call 79; rw [HD.out]; (refine (integer_any _ dd (by omega) (by omega)).mono ?_); rintro e v3 ⟨b4, A4, l4, c4, rfl, hs4, hA4, hy3⟩; have hd3 := chain hd2 hy3; have s30 := (hd3.cell (p := ⟨g, 0, none⟩) ltg).trans h0; have s31 := (hd3.cell (p := ⟨g, 1, none⟩) ltg).trans h1; obtain ⟨s32, s33⟩ := HS.out _ (hd3.mono hgl))
            | (go_at_call 123; (refine (pplus_any _ b3 A3 l3 c3 (z * 1000) hs3 (hA3.below hy3) b4 A4 l4 c4 dd hs4 hA4 (by omega) (by decide)).mono ?_); rintro e v4 ⟨b5, A5, l5, c5, rfl, hs5, hA5, hy4⟩; have hd4 := chain hd3 hy4; have s40 := (hd4.cell (p := ⟨g, 0, none⟩) ltg).trans h0; have s41 := (hd4.cell (p := ⟨g, 1, none⟩) ltg).trans h1; obtain ⟨s42, s43⟩ := HS.out _ (hd4.mono hgl); have q0 := ((bcell hd4).2 g 0 ltg).trans f0; have q1 := ((bcell hd4).2 g 1 ltg).trans f1))
        all_goals (
          have HST := Lib.hid (Num2.store HNM.out hd4 hs5 hA5)
          go_wp2_with fail
          refine ⟨⟨j + 1, z * 1000 + dd, b5, A5, l5, c5, by omega, by omega, by go_num, ?_, Lib.hid (step_bound hzb.out.1 hzb.out.2 hd9.1 hd9.2), ?_⟩, by simp [intOf] <;> omega⟩
          · rw [show 5 + 6 * (j + 1) = max (5 + 6 * j + 5) 5 + 1 by omega]; exact HST.out
          · exact ((hbr.trans (hd4.mono hgl)).setCell (Nat.le_refl _) _).setCell (Nat.le_refl _) _)
      · obtain ⟨kk, hkk⟩ : ∃ kk : Nat, (y % 501).toNat = kk := ⟨_, rfl⟩
        have hk5 : kk ≤ 500 := by omega
        have HZ : Hid (IntKind.i64.wrap (y.tmod 501) = (kk : Int)) := by show _ = _; rw [Int.tmod_eq_emod_of_nonneg hy0, IntKind.wrap_i64]; first | omega | (unfold wrap64; omega)
        have HKK := Lib.hid hkk
        clear hkk
        go_wp2_with fail
        have hd0 : Below wr.heap.size wr wr.drew := (Below.refl _ _).drew
        have ltg : g < wr.heap.size := World.block_lt_of_cell? _ _ h0
        have hbz1 := hb1.size
        have hg2 : w1.heap.size = g := HG.out
        have hgl : g ≤ wr.heap.size := by omega
        have hwg : w.heap.size < g := by omega
        clear hg2 hbz1
        have HS : Hid (∀ w', Below g wr w' → w'.cell? ⟨w.heap.size, 0, none⟩ = some (.bool bl) ∧ w'.cell? ⟨w.heap.size, 2, none⟩ = some (.int .u16 y)) := fun w' h => ⟨(h.cell (p := ⟨w.heap.size, 0, none⟩) hwg).trans x0, (h.cell (p := ⟨w.heap.size, 2, none⟩) hwg).trans x2⟩
        go_region_with (first
          | (go_at_call 79; (fail_if_success (have hq := hd1)); (refine (integer_any _ 10 (by decide) (by decide)).mono ?_); rintro e v1 ⟨b2, A2, l2, c2, rfl, hs2, hA2, hy1'⟩; have hd1 := chain hd0 hy1'; have s10 := (hd1.cell (p := ⟨g, 0, none⟩) ltg).trans h0; have s11 := (hd1.cell (p := ⟨g, 1, none⟩) ltg).trans h1; have s12 := (HS.out _ (hd1.mono hgl)).2)
          | (go_at_call 125; rw [HZ.out]; (refine (raised_any _ b2 A2 l2 c2 10 hs2 hA2 kk (by omega) (by decide)).mono ?_); rintro e v2 ⟨b3, A3, l3, c3, rfl, hs3, hA3, hy2⟩; have hd2 := chain hd1 hy2; have s20 := (hd2.cell (p := ⟨g, 0, none⟩) ltg).trans h0; have s21 := (hd2.cell (p := ⟨g, 1, none⟩) ltg).trans h1; have s22 := (HS.out _ (hd2.mono hgl)).2)
          | (go_at_call 124; (refine (ptimes_any _ b A' l c' z hsb (HMB.out.below hd2) b3 A3 l3 c3 (10 ^ kk) hs3 hA3 (by omega) (by omega)).mono ?_); rintro e v3 ⟨b5, A5, l5, c5, rfl, hs5, hA5, hy3⟩; have hd3 := chain hd2 hy3; have s30 := (hd3.cell (p := ⟨g, 0, none⟩) ltg).trans h0; have s31 := (hd3.cell (p := ⟨g, 1, none⟩) ltg).trans h1; have s32 := (HS.out _ (hd3.mono hgl)).2; have q0 := ((bcell hd3).2 g 0 ltg).trans f0; have q1 := ((bcell hd3).2 g 1 ltg).trans f1))
        all_goals (
          have HST := Lib.hid (Num2.store HNM.out hd3 hs5 hA5)
          obtain ⟨wm, hwm⟩ : ∃ x, (v3.setCell ⟨g, 0, none⟩ (.bool b5)).setCell ⟨g, 1, none⟩ (.slice A5 l5 c5) = x := ⟨_, rfl⟩
          rw [hwm] at HST
          have hbm : Below g wr wm := by rw [← hwm]; exact ((hd3.mono hgl).setCell (Nat.le_refl _) _).setCell (Nat.le_refl _) _
          rw [hwm]
          obtain ⟨m0, m1, mf0, mf1, mno, msb, mmb⟩ := HST.out
          obtain ⟨u0, u2⟩ := HS.out _ hbm
          have HMM := Lib.hid mmb
          clear mno mmb hA5 s10 s11 s12 s20 s21 s22 s30 s31 s32 q0 q1 h0 h1 f0 f1
          obtain ⟨zz, hzz⟩ : ∃ zz : Int, (if bl = true then -(z * 10 ^ kk) else z * 10 ^ kk) = zz := ⟨_, rfl⟩
          have hpos : 0 ≤ z * 10 ^ kk := Int.mul_nonneg hzb.out.1 (Int.pow_nonneg (by decide))
          have HZA : Hid (zz.natAbs = (z * 10 ^ kk).natAbs) := by show _ = _; rw [← hzz]; split <;> omega
          have HZB : Hid ((z * 10 ^ kk).natAbs ≠ 0 → bl = decide (zz < 0)) := sign_of hzz hpos
          have HEND : Hid (zz.natAbs < 1000 ^ 12 * 10 ^ (y % 501).toNat) := by show _ < _; rw [HZA.out, HKK.out]; exact end_bound hzb.out.2 (by omega)
          clear hzz hpos
          go_wp2_with fail
          refine (made_any _ bl A5 l5 c5 _ zz HMM.out.ds HZA.out HZB.out).mono ?_
          rintro e v6 ⟨b6, A6, l6, c6, rfl, hs6, hA6, hy6⟩
          have HS6 := Lib.hid (Num2.store HST.out hy6 hs6 hA6)
          have ltm : g < wm.heap.size := World.block_lt_of_cell? _ _ m0
          have e0 := (hy6.cell (p := ⟨g, 0, none⟩) ltm).trans m0
          have e1 := (hy6.cell (p := ⟨g, 1, none⟩) ltm).trans m1
          have q0 := ((bcell hy6).2 g 0 ltm).trans mf0
          have q1 := ((bcell hy6).2 g 1 ltm).trans mf1
          clear m0 m1 mf0 mf1 hA6
          obtain ⟨wn, hwn⟩ : ∃ x, (v6.setCell ⟨g, 0, none⟩ (.bool b6)).setCell ⟨g, 1, none⟩ (.slice A6 l6 c6) = x := ⟨_, rfl⟩
          rw [hwn] at HS6
          have hbn : Below g wm wn := by rw [← hwn]; exact ((hy6.mono (Nat.le_of_lt ltm)).setCell (Nat.le_refl _) _).setCell (Nat.le_refl _) _
          obtain ⟨n0, n1, -, -, -, nsb, nmb⟩ := HS6.out
          have HNB := Lib.hid nmb
          clear nmb
          go_wp2_with fail
          try rw [hwn]
          refine (out_any _ b6 A6 l6 c6 zz nsb HNB.out (by omega)).mono ?_
          rintro e v7 ⟨rfl, hy7⟩
          have hg3 : w1.heap.size = g := HG.out
          have hbF : Below w.heap.size w v7 := (chain hW hb1).trans (((hbr.trans (hbm.trans hbn)).mono (by have := (chain hW hb1).size; omega)).trans (hy7.mono (by have := hbn.size; have := (chain hW hb1).size; omega)))
          go_wp2_with fail
          all_goals go_ret
          all_goals exact ⟨zz, rfl, HEND, hbF⟩)
    · obtain ⟨kk, hkk⟩ : ∃ kk : Nat, (y % 501).toNat = kk := ⟨_, rfl⟩
      have hk5 : kk ≤ 500 := by omega
      have HZ : Hid (IntKind.i64.wrap (y.tmod 501) = (kk : Int)) := by show _ = _; rw [Int.tmod_eq_emod_of_nonneg hy0, IntKind.wrap_i64]; first | omega | (unfold wrap64; omega)
      have HKK := Lib.hid hkk
      clear hkk
      go_wp2_with fail
      have hd0 : Below wr.heap.size wr wr.drew := (Below.refl _ _).drew
      have ltg : g < wr.heap.size := World.block_lt_of_cell? _ _ h0
      have hbz1 := hb1.size
      have hg2 : w1.heap.size = g := HG.out
      have hgl : g ≤ wr.heap.size := by omega
      have hwg : w.heap.size < g := by omega
      clear hg2 hbz1
      have HS : Hid (∀ w', Below g wr w' → w'.cell? ⟨w.heap.size, 0, none⟩ = some (.bool bl) ∧ w'.cell? ⟨w.heap.size, 2, none⟩ = some (.int .u16 y)) := fun w' h => ⟨(h.cell (p := ⟨w.heap.size, 0, none⟩) hwg).trans x0, (h.cell (p := ⟨w.heap.size, 2, none⟩) hwg).trans x2⟩
      go_region_with (first
        | (go_at_call 79; (fail_if_success (have hq := hd1)); (refine (integer_any _ 10 (by decide) (by decide)).mono ?_); rintro e v1 ⟨b2, A2, l2, c2, rfl, hs2, hA2, hy1'⟩; have hd1 := chain hd0 hy1'; have s10 := (hd1.cell (p := ⟨g, 0, none⟩) ltg).trans h0; have s11 := (hd1.cell (p := ⟨g, 1, none⟩) ltg).trans h1; have s12 := (HS.out _ (hd1.mono hgl)).2)
        | (go_at_call 125; rw [HZ.out]; (refine (raised_any _ b2 A2 l2 c2 10 hs2 hA2 kk (by omega) (by decide)).mono ?_); rintro e v2 ⟨b3, A3, l3, c3, rfl, hs3, hA3, hy2⟩; have hd2 := chain hd1 hy2; have s20 := (hd2.cell (p := ⟨g, 0, none⟩) ltg).trans h0; have s21 := (hd2.cell (p := ⟨g, 1, none⟩) ltg).trans h1; have s22 := (HS.out _ (hd2.mono hgl)).2)
        | (go_at_call 124; (refine (ptimes_any _ b A' l c' z hsb (HMB.out.below hd2) b3 A3 l3 c3 (10 ^ kk) hs3 hA3 (by omega) (by omega)).mono ?_); rintro e v3 ⟨b5, A5, l5, c5, rfl, hs5, hA5, hy3⟩; have hd3 := chain hd2 hy3; have s30 := (hd3.cell (p := ⟨g, 0, none⟩) ltg).trans h0; have s31 := (hd3.cell (p := ⟨g, 1, none⟩) ltg).trans h1; have s32 := (HS.out _ (hd3.mono hgl)).2; have q0 := ((bcell hd3).2 g 0 ltg).trans f0; have q1 := ((bcell hd3).2 g 1 ltg).trans f1))
      all_goals (
        have HST := Lib.hid (Num2.store HNM.out hd3 hs5 hA5)
        obtain ⟨wm, hwm⟩ : ∃ x, (v3.setCell ⟨g, 0, none⟩ (.bool b5)).setCell ⟨g, 1, none⟩ (.slice A5 l5 c5) = x := ⟨_, rfl⟩
        rw [hwm] at HST
        have hbm : Below g wr wm := by rw [← hwm]; exact ((hd3.mono hgl).setCell (Nat.le_refl _) _).setCell (Nat.le_refl _) _
        rw [hwm]
        obtain ⟨m0, m1, mf0, mf1, mno, msb, mmb⟩ := HST.out
        obtain ⟨u0, u2⟩ := HS.out _ hbm
        have HMM := Lib.hid mmb
        clear mno mmb hA5 s10 s11 s12 s20 s21 s22 s30 s31 s32 q0 q1 h0 h1 f0 f1
        obtain ⟨zz, hzz⟩ : ∃ zz : Int, (if bl = true then -(z * 10 ^ kk) else z * 10 ^ kk) = zz := ⟨_, rfl⟩
        have hpos : 0 ≤ z * 10 ^ kk := Int.mul_nonneg hzb.out.1 (Int.pow_nonneg (by decide))
        have HZA : Hid (zz.natAbs = (z * 10 ^ kk).natAbs) := by show _ = _; rw [← hzz]; split <;> omega
        have HZB : Hid ((z * 10 ^ kk).natAbs ≠ 0 → bl = decide (zz < 0)) := sign_of hzz hpos
        have HEND : Hid (zz.natAbs < 1000 ^ 12 * 10 ^ (y % 501).toNat) := by show _ < _; rw [HZA.out, HKK.out]; exact end_bound hzb.out.2 (by omega)
        clear hzz hpos
        go_wp2_with fail
        refine (made_any _ bl A5 l5 c5 _ zz HMM.out.ds HZA.out HZB.out).mono ?_
        rintro e v6 ⟨b6, A6, l6, c6, rfl, hs6, hA6, hy6⟩
        have HS6 := Lib.hid (Num2.store HST.out hy6 hs6 hA6)
        have ltm : g < wm.heap.size := World.block_lt_of_cell? _ _ m0
        have e0 := (hy6.cell (p := ⟨g, 0, none⟩) ltm).trans m0
        have e1 := (hy6.cell (p := ⟨g, 1, none⟩) ltm).trans m1
        have q0 := ((bcell hy6).2 g 0 ltm).trans mf0
        have q1 := ((bcell hy6).2 g 1 ltm).trans mf1
        clear m0 m1 mf0 mf1 hA6
        obtain ⟨wn, hwn⟩ : ∃ x, (v6.setCell ⟨g, 0, none⟩ (.bool b6)).setCell ⟨g, 1, none⟩ (.slice A6 l6 c6) = x := ⟨_, rfl⟩
        rw [hwn] at HS6
        have hbn : Below g wm wn := by rw [← hwn]; exact ((hy6.mono (Nat.le_of_lt ltm)).setCell (Nat.le_refl _) _).setCell (Nat.le_refl _) _
        obtain ⟨n0, n1, -, -, -, nsb, nmb⟩ := HS6.out
        have HNB := Lib.hid nmb
        clear nmb
        go_wp2_with fail
        try rw [hwn]
        refine (out_any _ b6 A6 l6 c6 zz nsb HNB.out (by omega)).mono ?_
        rintro e v7 ⟨rfl, hy7⟩
        have hg3 : w1.heap.size = g := HG.out
        have hbF : Below w.heap.size w v7 := (chain hW hb1).trans (((hbr.trans (hbm.trans hbn)).mono (by have := (chain hW hb1).size; omega)).trans (hy7.mono (by have := hbn.size; have := (chain hW hb1).size; omega)))
        go_wp2_with fail
        all_goals go_ret
        all_goals exact ⟨zz, rfl, HEND, hbF⟩)
end Go.Proofs.YtkajibniibjblaaGreatDoor.P4

namespace Go.Proofs.YtkajibniibjblaaGreatDoor.P4
open Go.RowKit
set_option maxRecDepth 100000

theorem toldS_size (z : Int) : (toldS z).size ≤ 1000000 := by
  rw [toldS]
  split
  · rename_i h
    have hn6 : Lib.nDigits z.natAbs ≤ 600 := by simpa [fits] using h
    have hl := itoa_len z
    show (Lib.itoa z).toArray.size ≤ _
    rw [List.size_toArray, hl]
    split <;> omega
  · exact Nat.zero_le _
theorem toldQ_sized (q : Rat) : ∃ N D, toldQ q = .agg #[.string N, .string D] ∧ Hid (N.size ≤ 1000000 ∧ D.size ≤ 1000000) := by
  rw [toldQ]
  split
  · exact ⟨_, _, rfl, toldS_size _, toldS_size _⟩
  · exact ⟨_, _, rfl, Nat.zero_le _, Nat.zero_le _⟩
theorem fits_draft {z y : Int} (h : z.natAbs < 1000 ^ 12 * 10 ^ (y % 501).toNat) (hy : 0 ≤ y ∧ y ≤ 3) : fits z = true := by
  have h1 : (10 : Nat) ^ (y % 501).toNat ≤ 10 ^ 3 := Nat.pow_le_pow_right (by decide) (by omega)
  have h2 : z.natAbs < 1000 ^ 12 * 10 ^ 3 := Nat.lt_of_lt_of_le h (Nat.mul_le_mul_left _ h1)
  exact fits_le (k := 39) (Nat.lt_of_lt_of_le h2 (by decide)) (by decide) (by decide)

set_option maxHeartbeats 4000000 in
theorem draftfrac_any (w : World) (bl : Bool) (A : Option Addr) (n c : Nat) (z : Int) (xs : List Int) (hx : Rd w .u16 A n c xs) (hk : ∀ x ∈ xs, 0 ≤ x ∧ x ≤ 65535) (bm : Bool) (B : Option Addr) (m k : Nat) (y : Int) (ys : List Int) (hy : Rd w .u16 B m k ys) (hl : ∀ x ∈ ys, 0 ≤ x ∧ x ≤ 65535) (hz0 : 0 ≤ z) (hz1 : z ≤ 65535) (hy0 : 0 ≤ y) (hy1 : y ≤ 65535) :
    Calls Tryz.prog 33 #[.agg #[.bool bl, .slice A n c, .int .u16 z, .bool bm, .slice B m k, .int .u16 y]] w fun e w' => ∃ N D, e = .returned (.agg #[.string N, .string D]) ∧ Hid (N.size ≤ 1000000 ∧ D.size ≤ 1000000) ∧ Below w.heap.size w w' := by
  have hW : Below w.heap.size w ((w.alloc (.cells #[.bool bl, .slice A n c, .int .u16 z, .bool bm, .slice B m k, .int .u16 y] 56)).alloc (.cells #[.string ⟨#[]⟩, .string ⟨#[]⟩] 51)) := (((Below.refl w.heap.size w).alloc (Nat.le_refl _) _).alloc (by simp <;> omega) _)
  have o1 := heap_more (heap_last w (.cells #[.bool bl, .slice A n c, .int .u16 z, .bool bm, .slice B m k, .int .u16 y] 56)) (.cells #[.string ⟨#[]⟩, .string ⟨#[]⟩] 51)
  have O1 := Lib.hid o1
  clear o1
  have o2 := heap_last (w.alloc (.cells #[.bool bl, .slice A n c, .int .u16 z, .bool bm, .slice B m k, .int .u16 y] 56)) (.cells #[.string ⟨#[]⟩, .string ⟨#[]⟩] 51)
  rw [show (w.alloc (.cells #[.bool bl, .slice A n c, .int .u16 z, .bool bm, .slice B m k, .int .u16 y] 56)).heap.size = w.heap.size + 1 by simp] at o2
  have O2 := Lib.hid o2
  clear o2
  have hsz : ((w.alloc (.cells #[.bool bl, .slice A n c, .int .u16 z, .bool bm, .slice B m k, .int .u16 y] 56)).alloc (.cells #[.string ⟨#[]⟩, .string ⟨#[]⟩] 51)).heap.size = w.heap.size + 1 + 1 := by simp
  have HSZ := Lib.hid hsz
  clear hsz
  obtain ⟨wB, hwB⟩ : ∃ x, ((w.alloc (.cells #[.bool bl, .slice A n c, .int .u16 z, .bool bm, .slice B m k, .int .u16 y] 56)).alloc (.cells #[.string ⟨#[]⟩, .string ⟨#[]⟩] 51)) = x := ⟨_, rfl⟩
  rw [hwB] at hW HSZ O1 O2
  have hx1 := Lib.hid (hx.below hW)
  have hy1' := Lib.hid (hy.below hW)
  have HK := Lib.hid hk
  have HL := Lib.hid hl
  clear hx hy hk hl
  have c0 := cell_later (j := 0) O1.out (Below.refl _ _)
  have c1 := cell_later (j := 1) O1.out (Below.refl _ _)
  have c2 := cell_later (j := 2) O1.out (Below.refl _ _)
  have c3 := cell_later (j := 3) O1.out (Below.refl _ _)
  have c4 := cell_later (j := 4) O1.out (Below.refl _ _)
  have c5 := cell_later (j := 5) O1.out (Below.refl _ _)
  simp at c0 c1 c2 c3 c4 c5
  have HS : Hid (∀ w', Below wB.heap.size wB w' → w'.cell? ⟨w.heap.size, 0, none⟩ = some (.bool bl) ∧ w'.cell? ⟨w.heap.size, 1, none⟩ = some (.slice A n c) ∧ w'.cell? ⟨w.heap.size, 2, none⟩ = some (.int .u16 z) ∧ w'.cell? ⟨w.heap.size, 3, none⟩ = some (.bool bm) ∧ w'.cell? ⟨w.heap.size, 4, none⟩ = some (.slice B m k) ∧ w'.cell? ⟨w.heap.size, 5, none⟩ = some (.int .u16 y)) := fun w' h => ⟨(cell_later (j := 0) O1.out h).trans (by simp), (cell_later (j := 1) O1.out h).trans (by simp), (cell_later (j := 2) O1.out h).trans (by simp), (cell_later (j := 3) O1.out h).trans (by simp), (cell_later (j := 4) O1.out h).trans (by simp), (cell_later (j := 5) O1.out h).trans (by simp)⟩
  go_enter Tryz.func33, Tryz.ntmps33
  go_upto_region 1 with fail
  try rw [hwB]
  go_cut [3, 4] (fun px py wx => ∃ gx gy, px = .pointer (some ⟨gx, 0, none⟩) ∧ py = .pointer (some ⟨gy, 0, none⟩) ∧ gx ≠ gy ∧ wB.heap.size ≤ gx ∧ wB.heap.size ≤ gy ∧ wx.cell? ⟨gx, 0, none⟩ = some (.bool bl) ∧ wx.cell? ⟨gx, 1, none⟩ = some (.slice A n c) ∧ wx.cell? ⟨gx, 2, none⟩ = some (.int .u16 z) ∧ wx.cell? ⟨gy, 0, none⟩ = some (.bool bm) ∧ wx.cell? ⟨gy, 1, none⟩ = some (.slice B m k) ∧ wx.cell? ⟨gy, 2, none⟩ = some (.int .u16 y) ∧ wx.frozen? ⟨gx, 2, none⟩ = false ∧ wx.frozen? ⟨gy, 2, none⟩ = false ∧ Below wB.heap.size wB wx)
  case first => as_aux_lemma =>
    go_region_held3 (fun w' => w'.cell? ⟨w.heap.size, 0, none⟩ = some (.bool bl) ∧ w'.cell? ⟨w.heap.size, 1, none⟩ = some (.slice A n c) ∧ w'.cell? ⟨w.heap.size, 2, none⟩ = some (.int .u16 z) ∧ w'.cell? ⟨w.heap.size, 3, none⟩ = some (.bool bm) ∧ w'.cell? ⟨w.heap.size, 4, none⟩ = some (.slice B m k) ∧ w'.cell? ⟨w.heap.size, 5, none⟩ = some (.int .u16 y))
      ((refine HS.out _ ?_; repeat (first | with_reducible exact Below.refl _ _ | with_reducible exact hd1 | with_reducible exact hd2 | (with_reducible refine Below.setCell ?_ (by first | omega | (simp <;> omega)) _) | (with_reducible refine Below.alloc ?_ (by first | omega | (simp <;> omega)) _) | with_reducible refine Below.drew ?_)))
      (fail)
    all_goals (
      go_wp2_with fail
      go_meet
      refine ⟨_, _, rfl, rfl, ?_, ?_, ?_, ?_, ?_, ?_, ?_, ?_, ?_, ?_, ?_, ?_⟩
      · first | omega | (simp <;> omega)
      · first | omega | (simp <;> omega)
      · first | omega | (simp <;> omega)
      · first | (go_simp; done) | (go_simp; refine World.cell?_setCell_same (u := .bool false) _ _ _ ?_; go_simp; done) | (go_simp; refine (World.cell?_setCell_other _ _ _ _ (by simp <;> omega)).trans ?_; go_simp; done)
      · first | (go_simp; done) | (go_simp; refine World.cell?_setCell_same (u := .slice none 0 0) _ _ _ ?_; go_simp; done) | (go_simp; refine (World.cell?_setCell_other _ _ _ _ (by simp <;> omega)).trans ?_; go_simp; done)
      · first | (go_simp; done) | (go_simp; refine World.cell?_setCell_same (u := .int .u16 0) _ _ _ ?_; go_simp; done) | (go_simp; refine (World.cell?_setCell_other _ _ _ _ (by simp <;> omega)).trans ?_; go_simp; done)
      · first | (go_simp; done) | (go_simp; refine World.cell?_setCell_same (u := .bool false) _ _ _ ?_; go_simp; done) | (go_simp; refine (World.cell?_setCell_other _ _ _ _ (by simp <;> omega)).trans ?_; go_simp; done)
      · first | (go_simp; done) | (go_simp; refine World.cell?_setCell_same (u := .slice none 0 0) _ _ _ ?_; go_simp; done) | (go_simp; refine (World.cell?_setCell_other _ _ _ _ (by simp <;> omega)).trans ?_; go_simp; done)
      · first | (go_simp; done) | (go_simp; refine World.cell?_setCell_same (u := .int .u16 0) _ _ _ ?_; go_simp; done) | (go_simp; refine (World.cell?_setCell_other _ _ _ _ (by simp <;> omega)).trans ?_; go_simp; done)
      · go_simp
      · go_simp
      · repeat (first | with_reducible exact Below.refl _ _ | with_reducible exact hd1 | with_reducible exact hd2 | (with_reducible refine Below.setCell ?_ (by first | omega | (simp <;> omega)) _) | (with_reducible refine Below.alloc ?_ (by first | omega | (simp <;> omega)) _) | with_reducible refine Below.drew ?_))
  case rest => as_aux_lemma =>
    obtain ⟨gx, gy, rfl, rfl, hne, hgx, hgy, d0, d1, d2, e0, e1, e2, df, ef, hbc⟩ := hcut
    have hbc' := hbc
    obtain ⟨w2, hw2⟩ : ∃ x : World, x = wc := ⟨_, rfl⟩
    rw [← hw2] at d0 d1 d2 e0 e1 e2 df ef hbc ⊢
    clear hw2 hbc' c0 c1 c2 c3 c4 c5
    go_wp2_with fail
    go_region
    obtain ⟨w3, hw3⟩ : ∃ x, (w2.setCell ⟨gx, 2, none⟩ (.int .u16 (z % 4))).setCell ⟨gy, 2, none⟩ (.int .u16 (y % 4)) = x := ⟨_, rfl⟩
    have h3 : Below wB.heap.size wB w3 := by rw [← hw3]; exact (hbc.setCell hgx _).setCell hgy _
    have d0 : w3.cell? ⟨gx, 0, none⟩ = some (.bool bl) := by rw [← hw3]; exact (World.cell?_setCell_other _ _ _ _ (by simp <;> omega)).trans ((World.cell?_setCell_other _ _ _ _ (by simp <;> omega)).trans d0)
    have d1 : w3.cell? ⟨gx, 1, none⟩ = some (.slice A n c) := by rw [← hw3]; exact (World.cell?_setCell_other _ _ _ _ (by simp <;> omega)).trans ((World.cell?_setCell_other _ _ _ _ (by simp <;> omega)).trans d1)
    have d2 : w3.cell? ⟨gx, 2, none⟩ = some (.int .u16 (z % 4)) := by rw [← hw3]; exact (World.cell?_setCell_other _ _ _ _ (by simp <;> omega)).trans (World.cell?_setCell_same _ _ _ d2)
    have e0 : w3.cell? ⟨gy, 0, none⟩ = some (.bool bm) := by rw [← hw3]; exact (World.cell?_setCell_other _ _ _ _ (by simp <;> omega)).trans ((World.cell?_setCell_other _ _ _ _ (by simp <;> omega)).trans e0)
    have e1 : w3.cell? ⟨gy, 1, none⟩ = some (.slice B m k) := by rw [← hw3]; exact (World.cell?_setCell_other _ _ _ _ (by simp <;> omega)).trans ((World.cell?_setCell_other _ _ _ _ (by simp <;> omega)).trans e1)
    have e2 : w3.cell? ⟨gy, 2, none⟩ = some (.int .u16 (y % 4)) := by rw [← hw3]; exact World.cell?_setCell_same (u := .int .u16 y) _ _ _ ((World.cell?_setCell_other _ _ _ _ (by simp <;> omega)).trans e2)
    rw [hw3]
    clear df ef hw3
    have ltx : gx < w3.heap.size := World.block_lt_of_cell? _ _ d0
    have lty : gy < w3.heap.size := World.block_lt_of_cell? _ _ e0
    have HT : Hid (∀ w', Below w3.heap.size w3 w' → w'.cell? ⟨gx, 0, none⟩ = some (.bool bl) ∧ w'.cell? ⟨gx, 1, none⟩ = some (.slice A n c) ∧ w'.cell? ⟨gx, 2, none⟩ = some (.int .u16 (z % 4)) ∧ w'.cell? ⟨gy, 0, none⟩ = some (.bool bm) ∧ w'.cell? ⟨gy, 1, none⟩ = some (.slice B m k) ∧ w'.cell? ⟨gy, 2, none⟩ = some (.int .u16 (y % 4))) := fun w' h => ⟨(h.cell (p := ⟨gx, 0, none⟩) ltx).trans d0, (h.cell (p := ⟨gx, 1, none⟩) ltx).trans d1, (h.cell (p := ⟨gx, 2, none⟩) ltx).trans d2, (h.cell (p := ⟨gy, 0, none⟩) lty).trans e0, (h.cell (p := ⟨gy, 1, none⟩) lty).trans e1, (h.cell (p := ⟨gy, 2, none⟩) lty).trans e2⟩
    have hx3 := Lib.hid (hx1.out.below h3)
    have hy3 := Lib.hid (hy1'.out.below h3)
    go_upto_region 3 with fail
    go_cut [5, 6] (fun px py wx => ∃ ux uy b3 A3 l3 c3 b4 A4 l4 c4 z1 z2, px = .pointer (some ⟨ux, 0, none⟩) ∧ py = .pointer (some ⟨uy, 0, none⟩) ∧ ux ≠ uy ∧ w3.heap.size ≤ ux ∧ w3.heap.size ≤ uy ∧ Num2 wx ux 160 z1 b3 A3 l3 c3 ∧ Num2 wx uy 160 z2 b4 A4 l4 c4 ∧ Below w3.heap.size w3 wx)
    case first => as_aux_lemma =>
      go_region_held3 (fun w' => w'.cell? ⟨gx, 0, none⟩ = some (.bool bl) ∧ w'.cell? ⟨gx, 1, none⟩ = some (.slice A n c) ∧ w'.cell? ⟨gx, 2, none⟩ = some (.int .u16 (z % 4)) ∧ w'.cell? ⟨gy, 0, none⟩ = some (.bool bm) ∧ w'.cell? ⟨gy, 1, none⟩ = some (.slice B m k) ∧ w'.cell? ⟨gy, 2, none⟩ = some (.int .u16 (y % 4)))
        ((refine HT.out _ ?_; repeat (first | with_reducible exact Below.refl _ _ | with_reducible exact hd1 | with_reducible exact hd2 | with_reducible exact hd3 | with_reducible exact hd4 | (with_reducible refine Below.setCell ?_ (by first | omega | (simp <;> omega)) _) | (with_reducible refine Below.alloc ?_ (by first | omega | (simp <;> omega)) _) | with_reducible refine Below.drew ?_)))
        (first
          | (go_at_call 78; (fail_if_success (have hq := hd1)); (refine (whole_any _ bl A n c (z % 4) xs ?hx9 HK.out (by omega) (by omega)).mono ?_); (case hx9 => refine hx3.out.below ?_; repeat (first | with_reducible exact Below.refl _ _ | with_reducible exact hd1 | with_reducible exact hd2 | with_reducible exact hd3 | with_reducible exact hd4 | (with_reducible refine Below.setCell ?_ (by first | omega | (simp <;> omega)) _) | (with_reducible refine Below.alloc ?_ (by first | omega | (simp <;> omega)) _) | with_reducible refine Below.drew ?_)); rintro e v1 ⟨z1, rfl, hz1', hb1'⟩; have hcl1 := (bcell hb1').1; have hfr1 := (bcell hb1').2; have hs1 := hb1'.size; (try simp at hs1); (try have ht1a : w3.heap.size < v1.heap.size := by omega); (try have ht1b : w3.heap.size + 1 < v1.heap.size := by omega); have hd1 : Below w3.heap.size w3 v1 := (by refine Below.trans ?_ (hb1'.mono (by first | omega | (simp <;> omega))); repeat (first | with_reducible exact Below.refl _ _ | with_reducible exact hd1 | with_reducible exact hd2 | with_reducible exact hd3 | with_reducible exact hd4 | (with_reducible refine Below.setCell ?_ (by first | omega | (simp <;> omega)) _) | (with_reducible refine Below.alloc ?_ (by first | omega | (simp <;> omega)) _) | with_reducible refine Below.drew ?_)))
          | (go_at_call 77; (fail_if_success (have hq := hd2)); (refine (in_anyF _ (toldS z1) z1 (vw_told (fits_draft hz1'.out (by omega)))).mono ?_); rintro e v2 ⟨b3, A3, l3, c3, rfl, hB2, hM2, hF2, hb2'⟩; have hcl2 := (bcell hb2').1; have hfr2 := (bcell hb2').2; have hs2 := hb2'.size; (try simp at hs2); have hO2 := Lib.hid hM2.old; (try have ht2a : w3.heap.size < v2.heap.size := by omega); (try have ht2b : w3.heap.size + 1 < v2.heap.size := by omega); (try have hu21a : v1.heap.size < v2.heap.size := by omega); (try have hu21b : v1.heap.size + 1 < v2.heap.size := by omega); (try have hu21c : w3.heap.size < v1.heap.size + 1 := by omega); have hd2 : Below w3.heap.size w3 v2 := (by refine Below.trans ?_ (hb2'.mono (by first | omega | (simp <;> omega))); repeat (first | with_reducible exact Below.refl _ _ | with_reducible exact hd1 | with_reducible exact hd2 | with_reducible exact hd3 | with_reducible exact hd4 | (with_reducible refine Below.setCell ?_ (by first | omega | (simp <;> omega)) _) | (with_reducible refine Below.alloc ?_ (by first | omega | (simp <;> omega)) _) | with_reducible refine Below.drew ?_)))
          | (go_at_call 78; (fail_if_success (have hq := hd3)); (refine (whole_any _ bm B m k (y % 4) ys ?hy9 HL.out (by omega) (by omega)).mono ?_); (case hy9 => refine hy3.out.below ?_; repeat (first | with_reducible exact Below.refl _ _ | with_reducible exact hd1 | with_reducible exact hd2 | with_reducible exact hd3 | with_reducible exact hd4 | (with_reducible refine Below.setCell ?_ (by first | omega | (simp <;> omega)) _) | (with_reducible refine Below.alloc ?_ (by first | omega | (simp <;> omega)) _) | with_reducible refine Below.drew ?_)); rintro e v3 ⟨z2, rfl, hz2', hb3'⟩; have hcl3 := (bcell hb3').1; have hfr3 := (bcell hb3').2; have hs3 := hb3'.size; (try simp at hs3); (try have ht3a : w3.heap.size < v3.heap.size := by omega); (try have ht3b : w3.heap.size + 1 < v3.heap.size := by omega); (try have hu31a : v1.heap.size < v3.heap.size := by omega); (try have hu31b : v1.heap.size + 1 < v3.heap.size := by omega); (try have hu31c : w3.heap.size < v1.heap.size + 1 := by omega); (try have hu32a : v2.heap.size < v3.heap.size := by omega); (try have hu32b : v2.heap.size + 1 < v3.heap.size := by omega); (try have hu32c : w3.heap.size < v2.heap.size + 1 := by omega); have hd3 : Below w3.heap.size w3 v3 := (by refine Below.trans ?_ (hb3'.mono (by first | omega | (simp <;> omega))); repeat (first | with_reducible exact Below.refl _ _ | with_reducible exact hd1 | with_reducible exact hd2 | with_reducible exact hd3 | with_reducible exact hd4 | (with_reducible refine Below.setCell ?_ (by first | omega | (simp <;> omega)) _) | (with_reducible refine Below.alloc ?_ (by first | omega | (simp <;> omega)) _) | with_reducible refine Below.drew ?_)))
          | (go_at_call 77; (refine (in_anyF _ (toldS z2) z2 (vw_told (fits_draft hz2'.out (by omega)))).mono ?_); rintro e v4 ⟨b4, A4, l4, c4, rfl, hB4, hM4, hF4, hb4'⟩; have hcl4 := (bcell hb4').1; have hfr4 := (bcell hb4').2; have hs4 := hb4'.size; (try simp at hs4); have hO4 := Lib.hid hM4.old; (try have ht4a : w3.heap.size < v4.heap.size := by omega); (try have ht4b : w3.heap.size + 1 < v4.heap.size := by omega); (try have hu41a : v1.heap.size < v4.heap.size := by omega); (try have hu41b : v1.heap.size + 1 < v4.heap.size := by omega); (try have hu41c : w3.heap.size < v1.heap.size + 1 := by omega); (try have hu42a : v2.heap.size < v4.heap.size := by omega); (try have hu42b : v2.heap.size + 1 < v4.heap.size := by omega); (try have hu42c : w3.heap.size < v2.heap.size + 1 := by omega); (try have hu43a : v3.heap.size < v4.heap.size := by omega); (try have hu43b : v3.heap.size + 1 < v4.heap.size := by omega); (try have hu43c : w3.heap.size < v3.heap.size + 1 := by omega); have hd4 : Below w3.heap.size w3 v4 := (by refine Below.trans ?_ (hb4'.mono (by first | omega | (simp <;> omega))); repeat (first | with_reducible exact Below.refl _ _ | with_reducible exact hd1 | with_reducible exact hd2 | with_reducible exact hd3 | with_reducible exact hd4 | (with_reducible refine Below.setCell ?_ (by first | omega | (simp <;> omega)) _) | (with_reducible refine Below.alloc ?_ (by first | omega | (simp <;> omega)) _) | with_reducible refine Below.drew ?_))))
      all_goals (
        go_wp2_with fail
        go_meet
        refine ⟨_, _, b3, A3, l3, c3, b4, A4, l4, c4, z1, z2, rfl, rfl, ?_, ?_, ?_, ⟨?_, ?_, ?_, ?_, ?_, hB2, ?_⟩, ⟨?_, ?_, ?_, ?_, ?_, hB4, ?_⟩, ?_⟩
        · first | omega | (simp <;> omega)
        · first | omega | (simp <;> omega)
        · first | omega | (simp <;> omega)
        · first | (go_simp; done) | (go_simp; refine World.cell?_setCell_same (u := .bool false) _ _ _ ?_; go_simp; done) | (go_simp; refine (World.cell?_setCell_other _ _ _ _ (by simp <;> omega)).trans ?_; go_simp; done)
        · first | (go_simp; done) | (go_simp; refine World.cell?_setCell_same (u := .slice none 0 0) _ _ _ ?_; go_simp; done) | (go_simp; refine (World.cell?_setCell_other _ _ _ _ (by simp <;> omega)).trans ?_; go_simp; done)
        · go_simp
        · go_simp
        · intro o ho; go_simp
        · repeat (first | with_reducible exact hM2 | (with_reducible refine Ms.setCell ?_ (fun ad e hl => by have h1 := hO2.out ad e hl; have h2 := hF2.out ad e; (try simp at h2); first | omega | (simp <;> omega))) | (with_reducible refine Ms.below ?_ ((Below.refl _ _).alloc (Nat.le_refl _) _)) | (with_reducible refine Ms.below ?_ hb3') | (with_reducible refine Ms.below ?_ hb4') | (with_reducible refine Ms.below ?_ ((Below.refl _ _).drew)))
        · first | (go_simp; done) | (go_simp; refine World.cell?_setCell_same (u := .bool false) _ _ _ ?_; go_simp; done) | (go_simp; refine (World.cell?_setCell_other _ _ _ _ (by simp <;> omega)).trans ?_; go_simp; done)
        · first | (go_simp; done) | (go_simp; refine World.cell?_setCell_same (u := .slice none 0 0) _ _ _ ?_; go_simp; done) | (go_simp; refine (World.cell?_setCell_other _ _ _ _ (by simp <;> omega)).trans ?_; go_simp; done)
        · go_simp
        · go_simp
        · intro o ho; go_simp
        · repeat (first | with_reducible exact hM4 | (with_reducible refine Ms.setCell ?_ (fun ad e hl => by have h1 := hO4.out ad e hl; have h2 := hF4.out ad e; (try simp at h2); first | omega | (simp <;> omega))) | (with_reducible refine Ms.below ?_ ((Below.refl _ _).alloc (Nat.le_refl _) _)) | (with_reducible refine Ms.below ?_ ((Below.refl _ _).drew)))
        · repeat (first | with_reducible exact Below.refl _ _ | with_reducible exact hd1 | with_reducible exact hd2 | with_reducible exact hd3 | with_reducible exact hd4 | (with_reducible refine Below.setCell ?_ (by first | omega | (simp <;> omega)) _) | (with_reducible refine Below.alloc ?_ (by first | omega | (simp <;> omega)) _) | with_reducible refine Below.drew ?_))
    case rest => as_aux_lemma =>
      obtain ⟨ux, uy, b3, A3, l3, c3, b4, A4, l4, c4, z1, z2, rfl, rfl, hxy, hux, huy, hnx, hny, hb4⟩ := hcut
      obtain ⟨w4, hw4⟩ : ∃ x : World, x = wc := ⟨_, rfl⟩
      rw [← hw4] at hnx hny hb4 ⊢
      clear hw4
      have hB4 := chain h3 hb4
      have hz3 := h3.size
      have hz4 := hb4.size
      have HNX := Lib.hid hnx
      have HNY := Lib.hid hny
      obtain ⟨k0, k1, kf0, kf1, kno, ksb, kmb⟩ := hnx
      obtain ⟨p0, p1, pf0, pf1, pno, psb, pmb⟩ := hny
      have HKM := Lib.hid kmb
      have HPM := Lib.hid pmb
      have HPN := Lib.hid pno
      clear kno pno kmb pmb hx3 hy3 HT d0 d1 d2 e0 e1 e2
      rcases Int.lt_trichotomy z2 0 with hz | hz | hz
      · obtain rfl : b4 = true := by rw [psb.out]; simp [hz]
        have hl : ((l4 : Int) == 0) = false := by rw [beq_eq_false_iff_ne]; intro e; have := HPM.out.len_zero.1 (by omega); omega
        have hzp : 0 < z2.natAbs := by omega
        clear hz
        go_wp2_with fail
        refine (rlowest_neg _ b3 A3 l3 c3 z1 ksb HKM.out A4 l4 c4 z2.natAbs HPM.out hzp (by decide)).mono ?_
        rintro e w5 ⟨b5, A5, l5, c5, B5, m5, d5, rfl, hs5, hA5, hD5, hx5⟩
        go_wp2_with fail
        refine (rout_any _ b5 A5 l5 c5 B5 m5 d5 (mkRat (-z1) z2.natAbs) hs5 hA5 hD5 (by decide)).mono ?_
        rintro e w8 ⟨rfl, hx8⟩
        obtain ⟨N1, D1, hT, hSz⟩ := toldQ_sized (mkRat (-z1) z2.natAbs)
        rw [hT]
        obtain ⟨te, hte⟩ : ∃ t, toldQE (mkRat (-z1) z2.natAbs) = t := ⟨_, rfl⟩
        rw [hte]
        have hc8 := chain (chain hB4 hx5) hx8
        clear hT hte
        have r0 := cell_later (j := 0) O2.out hc8
        have r1 := cell_later (j := 1) O2.out hc8
        have rf0 := frozen_later O2.out hc8 0
        have rf1 := frozen_later O2.out hc8 1
        simp at r0 r1
        have hWE := chain hW hc8
        have hbs := hc8.size
        rw [HSZ.out] at hbs
        have hs9 : w.heap.size + 1 < w8.heap.size := by omega
        go_wp2_with fail
        refine bodyPost_ret (v := .agg #[.string N1, .string D1]) (by simp [results, Tryz.results33, go_sem]; go_simp) rfl ⟨N1, D1, rfl, hSz, ?_⟩
        repeat (first | with_reducible exact hWE | (with_reducible refine Below.setCell ?_ (by first | omega | (simp <;> omega)) _) | (with_reducible refine Below.alloc ?_ (by first | omega | (simp <;> omega)) _) | with_reducible refine Below.drew ?_)
      · obtain rfl : b4 = false := by rw [psb.out]; simp; omega
        have hl : l4 = 0 := HPM.out.len_zero.2 (by omega)
        subst hl
        clear hz
        go_wp2_with fail
        refine (integer_any _ 1 (by decide) (by decide)).mono ?_
        rintro e w5' ⟨b6, A6, l6, c6, rfl, hs6, hA6, hx6⟩
        have hST := Num2.store HNY.out hx6 hs6 hA6
        have lty4 := World.block_lt_of_cell? _ _ p0
        have ltx4 := World.block_lt_of_cell? _ _ k0
        have q0 := (hx6.cell (p := ⟨uy, 0, none⟩) lty4).trans p0
        have q1 := (hx6.cell (p := ⟨uy, 1, none⟩) lty4).trans p1
        have qf0 := ((bcell hx6).2 uy 0 lty4).trans pf0
        have qf1 := ((bcell hx6).2 uy 1 lty4).trans pf1
        have HOF := Lib.hid ((HKM.out.below hx6).off_no q0 q1 (fun o ho => (hx6.cell (p := ⟨uy, o, none⟩) lty4).trans (HPN.out o ho)) (by simp) (by simp))
        have j0 := (hx6.cell (p := ⟨ux, 0, none⟩) ltx4).trans k0
        have j1 := (hx6.cell (p := ⟨ux, 1, none⟩) ltx4).trans k1
        obtain ⟨w6, hw6⟩ : ∃ x, (w5'.setCell ⟨uy, 0, none⟩ (.bool b6)).setCell ⟨uy, 1, none⟩ (.slice A6 l6 c6) = x := ⟨_, rfl⟩
        rw [hw6] at hST
        have hB6 : Below wB.heap.size wB w6 := by rw [← hw6]; exact ((chain hB4 hx6).setCell (by simp <;> omega) _).setCell (by simp <;> omega) _
        have HK6 : Hid (Ms w6 160 A3 l3 c3 z1.natAbs) := by show Ms _ _ _ _ _ _; rw [← hw6]; exact ((HKM.out.below hx6).setCell HOF.out).setCell HOF.out
        have g0 : w6.cell? ⟨ux, 0, none⟩ = some (.bool b3) := by rw [← hw6]; exact (World.cell?_setCell_other _ _ _ _ (by simp <;> omega)).trans ((World.cell?_setCell_other _ _ _ _ (by simp <;> omega)).trans j0)
        have g1 : w6.cell? ⟨ux, 1, none⟩ = some (.slice A3 l3 c3) := by rw [← hw6]; exact (World.cell?_setCell_other _ _ _ _ (by simp <;> omega)).trans ((World.cell?_setCell_other _ _ _ _ (by simp <;> omega)).trans j1)
        obtain ⟨t0, t1, -, -, -, tsb, tmb⟩ := hST
        obtain rfl : b6 = false := by rw [tsb.out]; decide
        have HTM := Lib.hid (tmb.mono (show 5 ≤ 160 by decide))
        clear tmb k0 k1 p0 p1 pf0 pf1 j0 j1 kf0 kf1 hA6
        go_wp2_with fail
        try rw [hw6]
        refine (rlowest_any _ b3 A3 l3 c3 z1 ksb HK6.out A6 l6 c6 1 HTM.out (by decide) (by decide)).mono ?_
        rintro e w5 ⟨b5, A5, l5, c5, B5, m5, d5, rfl, hs5, hA5, hD5, hx5⟩
        go_wp2_with fail
        refine (rout_any _ b5 A5 l5 c5 B5 m5 d5 (mkRat z1 1) hs5 hA5 hD5 (by decide)).mono ?_
        rintro e w8 ⟨rfl, hx8⟩
        obtain ⟨N1, D1, hT, hSz⟩ := toldQ_sized (mkRat z1 1)
        rw [hT]
        obtain ⟨te, hte⟩ : ∃ t, toldQE (mkRat z1 1) = t := ⟨_, rfl⟩
        rw [hte]
        have hc8 := chain (chain hB6 hx5) hx8
        clear hT hte
        have r0 := cell_later (j := 0) O2.out hc8
        have r1 := cell_later (j := 1) O2.out hc8
        have rf0 := frozen_later O2.out hc8 0
        have rf1 := frozen_later O2.out hc8 1
        simp at r0 r1
        have hWE := chain hW hc8
        have hbs := hc8.size
        rw [HSZ.out] at hbs
        have hs9 : w.heap.size + 1 < w8.heap.size := by omega
        go_wp2_with fail
        refine bodyPost_ret (v := .agg #[.string N1, .string D1]) (by simp [results, Tryz.results33, go_sem]; go_simp) rfl ⟨N1, D1, rfl, hSz, ?_⟩
        repeat (first | with_reducible exact hWE | (with_reducible refine Below.setCell ?_ (by first | omega | (simp <;> omega)) _) | (with_reducible refine Below.alloc ?_ (by first | omega | (simp <;> omega)) _) | with_reducible refine Below.drew ?_)
      · obtain rfl : b4 = false := by rw [psb.out]; simp; omega
        have hl : ((l4 : Int) == 0) = false := by rw [beq_eq_false_iff_ne]; intro e; have := HPM.out.len_zero.1 (by omega); omega
        have hzp : 0 < z2.natAbs := by omega
        clear hz
        go_wp2_with fail
        refine (rlowest_any _ b3 A3 l3 c3 z1 ksb HKM.out A4 l4 c4 z2.natAbs HPM.out hzp (by decide)).mono ?_
        rintro e w5 ⟨b5, A5, l5, c5, B5, m5, d5, rfl, hs5, hA5, hD5, hx5⟩
        go_wp2_with fail
        refine (rout_any _ b5 A5 l5 c5 B5 m5 d5 (mkRat z1 z2.natAbs) hs5 hA5 hD5 (by decide)).mono ?_
        rintro e w8 ⟨rfl, hx8⟩
        obtain ⟨N1, D1, hT, hSz⟩ := toldQ_sized (mkRat z1 z2.natAbs)
        rw [hT]
        obtain ⟨te, hte⟩ : ∃ t, toldQE (mkRat z1 z2.natAbs) = t := ⟨_, rfl⟩
        rw [hte]
        have hc8 := chain (chain hB4 hx5) hx8
        clear hT hte
        have r0 := cell_later (j := 0) O2.out hc8
        have r1 := cell_later (j := 1) O2.out hc8
        have rf0 := frozen_later O2.out hc8 0
        have rf1 := frozen_later O2.out hc8 1
        simp at r0 r1
        have hWE := chain hW hc8
        have hbs := hc8.size
        rw [HSZ.out] at hbs
        have hs9 : w.heap.size + 1 < w8.heap.size := by omega
        go_wp2_with fail
        refine bodyPost_ret (v := .agg #[.string N1, .string D1]) (by simp [results, Tryz.results33, go_sem]; go_simp) rfl ⟨N1, D1, rfl, hSz, ?_⟩
        repeat (first | with_reducible exact hWE | (with_reducible refine Below.setCell ?_ (by first | omega | (simp <;> omega)) _) | (with_reducible refine Below.alloc ?_ (by first | omega | (simp <;> omega)) _) | with_reducible refine Below.drew ?_)
end Go.Proofs.YtkajibniibjblaaGreatDoor.P4
