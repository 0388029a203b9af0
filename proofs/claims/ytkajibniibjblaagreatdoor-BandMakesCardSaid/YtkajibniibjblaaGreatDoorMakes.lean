/-
  BandMakes: the walk.
-/
import Derived.Test.YtkajibniibjblaaGreatDoorClamps
import Derived.Test.YtkajibniibjblaaGreatDoorDraftR
import Derived.Test.YtkajibniibjblaaGreatDoorRef6
import Derived.Test.YtkajibniibjblaaGreatDoorMakesL
import Derived.Deep.QuietTactic
import Derived.BigQuiet
namespace Go.Proofs.YtkajibniibjblaaGreatDoor
open Go.RowKit
set_option maxRecDepth 100000

theorem around_both (N D : ByteArray) (hs : Hid (N.size ≤ 1000000 ∧ D.size ≤ 1000000)) : ∃ r : BR, (∀ w, Env2 w → Calls Tryz.prog 36 #[.agg #[.string N, .string D]] w (RetB w r)) ∧ (∀ w, Calls Tryz.prog 37 #[.agg #[.string N, .string D]] w (RetB w r)) := by
  by_cases h : ∃ q, VQ N D q
  · obtain ⟨q, hq⟩ := h
    exact ⟨aroundB q, fun w he => around_any w he N D q hq, fun w => P4.raround_ok w N D hq⟩
  · exact ⟨.bad 20, fun w he => around_bad w he N D h, fun w => P4.raround_bad w N D hs.out.1 hs.out.2 h⟩
theorem has_both (lo hi : Int) (N D : ByteArray) (hs : Hid (N.size ≤ 1000000 ∧ D.size ≤ 1000000)) : ∃ (b : Bool) (e : Int), (∀ w, Env2 w → Calls Tryz.prog 38 #[bandV lo hi, .agg #[.string N, .string D]] w (RetH w b e)) ∧ (∀ w, Calls Tryz.prog 39 #[bandV lo hi, .agg #[.string N, .string D]] w (RetH w b e)) := by
  cases hok : okB lo hi with
  | false => exact ⟨false, 30, fun w he => has_band w he lo hi N D hok, fun w => P4.rhas_band w lo hi N D hok⟩
  | true =>
    by_cases h : ∃ q, VQ N D q
    · obtain ⟨q, hq⟩ := h
      exact ⟨hasB lo hi q, 0, fun w he => has_any w he lo hi N D q hq hok, fun w => P4.rhas_ok w lo hi N D hok hq⟩
    · exact ⟨false, 20, fun w he => has_bad w he lo hi N D hok h, fun w => P4.rhas_bad w lo hi N D hok hs.out.1 hs.out.2 h⟩
theorem build8 (W : World) (N D N' D' N2 D2 N3 D3 : ByteArray) : (Instr.build 62 #[(0, .agg #[.string N, .string D]), (1, .agg #[.string N', .string D']), (2, .agg #[.string N2, .string D2]), (3, .agg #[.string N3, .string D3])]).run Tryz.prog W = .ok (.agg #[.string N, .string D, .string N', .string D', .string N2, .string D2, .string N3, .string D3]) W := by kernel_rfl
theorem idx8_0 (W : World) (N D N' D' N2 D2 N3 D3 : ByteArray) : (Instr.index 62 (.agg #[.string N, .string D, .string N', .string D', .string N2, .string D2, .string N3, .string D3]) (.int .i64 0)).run Tryz.prog W = .ok (.agg #[.string N, .string D]) W := by kernel_rfl
theorem idx8_1 (W : World) (N D N' D' N2 D2 N3 D3 : ByteArray) : (Instr.index 62 (.agg #[.string N, .string D, .string N', .string D', .string N2, .string D2, .string N3, .string D3]) (.int .i64 1)).run Tryz.prog W = .ok (.agg #[.string N', .string D']) W := by kernel_rfl
theorem idx8_2 (W : World) (N D N' D' N2 D2 N3 D3 : ByteArray) : (Instr.index 62 (.agg #[.string N, .string D, .string N', .string D', .string N2, .string D2, .string N3, .string D3]) (.int .i64 2)).run Tryz.prog W = .ok (.agg #[.string N2, .string D2]) W := by kernel_rfl
theorem idx8_3 (W : World) (N D N' D' N2 D2 N3 D3 : ByteArray) : (Instr.index 62 (.agg #[.string N, .string D, .string N', .string D', .string N2, .string D2, .string N3, .string D3]) (.int .i64 3)).run Tryz.prog W = .ok (.agg #[.string N3, .string D3]) W := by kernel_rfl
theorem idx8 {N D N' D' N2 D2 N3 D3 : ByteArray} (h0 : Hid (N.size ≤ 1000000 ∧ D.size ≤ 1000000)) (h1 : Hid (N'.size ≤ 1000000 ∧ D'.size ≤ 1000000)) (h2 : Hid (N2.size ≤ 1000000 ∧ D2.size ≤ 1000000)) (h3 : Hid (N3.size ≤ 1000000 ∧ D3.size ≤ 1000000)) (j : Nat) (hj : j < 4) :
    ∃ A B : ByteArray, Hid (A.size ≤ 1000000 ∧ B.size ≤ 1000000) ∧ ∀ W, (Instr.index 62 (.agg #[.string N, .string D, .string N', .string D', .string N2, .string D2, .string N3, .string D3]) (.int .i64 (j : Int))).run Tryz.prog W = .ok (.agg #[.string A, .string B]) W := by
  match j, hj with
  | 0, _ => exact ⟨_, _, h0, fun W => idx8_0 W _ _ _ _ _ _ _ _⟩
  | 1, _ => exact ⟨_, _, h1, fun W => idx8_1 W _ _ _ _ _ _ _ _⟩
  | 2, _ => exact ⟨_, _, h2, fun W => idx8_2 W _ _ _ _ _ _ _ _⟩
  | 3, _ => exact ⟨_, _, h3, fun W => idx8_3 W _ _ _ _ _ _ _ _⟩

set_option maxHeartbeats 4000000 in
theorem makes_walk (w : World) (henv : Env2 w) (a0 a1 b0 b1 ax ux ay uy : Int) (hx0 : -9223372036854775808 ≤ ax) (hx1 : ax ≤ 9223372036854775807) (hx2 : 0 ≤ ux) (hx3 : ux ≤ 4294967295) (hy0 : -9223372036854775808 ≤ ay) (hy1 : ay ≤ 9223372036854775807) (hy2 : 0 ≤ uy) (hy3 : uy ≤ 4294967295)
    (n : Int) (N D : ByteArray)
    (bl : Bool) (A : Option Addr) (k c : Nat) (z : Int) (xs : List Int) (hr : Rd w .u16 A k c xs) (hk : ∀ x ∈ xs, 0 ≤ x ∧ x ≤ 65535) (bm : Bool) (B : Option Addr) (m dd : Nat) (y : Int) (ys : List Int) (hs : Rd w .u16 B m dd ys) (hl : ∀ x ∈ ys, 0 ≤ x ∧ x ≤ 65535) (hz0 : 0 ≤ z) (hz1 : z ≤ 65535) (hyy0 : 0 ≤ y) (hyy1 : y ≤ 65535) :
    Calls Tryz.prog 6 #[.agg #[.int .i64 a0, .int .i64 a1, .int .i64 b0, .int .i64 b1, .int .i64 ax, .int .u32 ux, .int .i64 ay, .int .u32 uy], .int .i64 n, .agg #[.string N, .string D], .agg #[.bool bl, .slice A k c, .int .u16 z, .bool bm, .slice B m dd, .int .u16 y]] w fun e w' => e = .returned (.bool true) ∧ Below w.heap.size w w' := by
  have hW : Below w.heap.size w (((w.alloc (.cells #[.int .i64 a0, .int .i64 a1, .int .i64 b0, .int .i64 b1, .int .i64 ax, .int .u32 ux, .int .i64 ay, .int .u32 uy] 28)).alloc (.cells #[.string N, .string D] 51)).alloc (.cells #[.bool bl, .slice A k c, .int .u16 z, .bool bm, .slice B m dd, .int .u16 y] 56)) := ((((Below.refl w.heap.size w).alloc (Nat.le_refl _) _).alloc (by simp <;> omega) _).alloc (by simp <;> omega) _)
  have o1 := heap_more (heap_more (heap_last w (.cells #[.int .i64 a0, .int .i64 a1, .int .i64 b0, .int .i64 b1, .int .i64 ax, .int .u32 ux, .int .i64 ay, .int .u32 uy] 28)) (.cells #[.string N, .string D] 51)) (.cells #[.bool bl, .slice A k c, .int .u16 z, .bool bm, .slice B m dd, .int .u16 y] 56)
  have O1 := Lib.hid o1
  clear o1
  have o2 := heap_more (heap_last (w.alloc (.cells #[.int .i64 a0, .int .i64 a1, .int .i64 b0, .int .i64 b1, .int .i64 ax, .int .u32 ux, .int .i64 ay, .int .u32 uy] 28)) (.cells #[.string N, .string D] 51)) (.cells #[.bool bl, .slice A k c, .int .u16 z, .bool bm, .slice B m dd, .int .u16 y] 56)
  rw [show (w.alloc (.cells #[.int .i64 a0, .int .i64 a1, .int .i64 b0, .int .i64 b1, .int .i64 ax, .int .u32 ux, .int .i64 ay, .int .u32 uy] 28)).heap.size = w.heap.size + 1 by simp] at o2
  have O2 := Lib.hid o2
  clear o2
  have o3 := heap_last ((w.alloc (.cells #[.int .i64 a0, .int .i64 a1, .int .i64 b0, .int .i64 b1, .int .i64 ax, .int .u32 ux, .int .i64 ay, .int .u32 uy] 28)).alloc (.cells #[.string N, .string D] 51)) (.cells #[.bool bl, .slice A k c, .int .u16 z, .bool bm, .slice B m dd, .int .u16 y] 56)
  rw [show ((w.alloc (.cells #[.int .i64 a0, .int .i64 a1, .int .i64 b0, .int .i64 b1, .int .i64 ax, .int .u32 ux, .int .i64 ay, .int .u32 uy] 28)).alloc (.cells #[.string N, .string D] 51)).heap.size = w.heap.size + 1 + 1 by simp] at o3
  have O3 := Lib.hid o3
  clear o3
  have hsz : (((w.alloc (.cells #[.int .i64 a0, .int .i64 a1, .int .i64 b0, .int .i64 b1, .int .i64 ax, .int .u32 ux, .int .i64 ay, .int .u32 uy] 28)).alloc (.cells #[.string N, .string D] 51)).alloc (.cells #[.bool bl, .slice A k c, .int .u16 z, .bool bm, .slice B m dd, .int .u16 y] 56)).heap.size = w.heap.size + 1 + 1 + 1 := by simp
  have HSZ := Lib.hid hsz
  clear hsz
  obtain ⟨wB, hwB⟩ : ∃ x, (((w.alloc (.cells #[.int .i64 a0, .int .i64 a1, .int .i64 b0, .int .i64 b1, .int .i64 ax, .int .u32 ux, .int .i64 ay, .int .u32 uy] 28)).alloc (.cells #[.string N, .string D] 51)).alloc (.cells #[.bool bl, .slice A k c, .int .u16 z, .bool bm, .slice B m dd, .int .u16 y] 56)) = x := ⟨_, rfl⟩
  rw [hwB] at hW HSZ O1 O2 O3
  have HE := Lib.hid (henv.below hW)
  clear henv
  have HX := Lib.hid (hr.below hW)
  have HY := Lib.hid (hs.below hW)
  have HK := Lib.hid hk
  have HL := Lib.hid hl
  clear hr hs hk hl
  obtain ⟨pr, hpr⟩ : ∃ r, oneB n n ⟨n, n, 0⟩ = r := ⟨_, rfl⟩
  have HPR := Lib.hid hpr
  clear hpr
  go_enter Tryz.func6, Tryz.ntmps6
  go_wp2_with fail
  try rw [hwB]
  refine (works_any _ HE.out).mono ?_
  rintro e w1 ⟨rfl, hb1⟩
  have HE1 := Lib.hid (HE.out.below hb1)
  go_wp2_with fail
  refine (P4.point_any _ n).mono ?_
  rintro e w2 ⟨rfl, hb2⟩
  rw [HPR.out]
  have OP := Lib.hid (heap_last w2 (.cells #[.int .i64 pr.lo, .int .i64 pr.hi] 23))
  have hp2 : Below w2.heap.size w2 (w2.alloc (.cells #[.int .i64 pr.lo, .int .i64 pr.hi] 23)) := (Below.refl _ _).alloc (Nat.le_refl _) _
  go_wp2_with fail
  refine (P4.rpoint_any _ n).mono ?_
  rintro e w3 ⟨rfl, hb3⟩
  rw [HPR.out]
  obtain ⟨w4, hw4⟩ : ∃ x, w3.alloc (.cells #[.int .i64 pr.lo, .int .i64 pr.hi] 23) = x := ⟨_, rfl⟩
  have hb4 : Below w3.heap.size w3 w4 := by rw [← hw4]; exact (Below.refl _ _).alloc (Nat.le_refl _) _
  have OQ := Lib.hid (heap_last w3 (.cells #[.int .i64 pr.lo, .int .i64 pr.hi] 23))
  rw [hw4] at OQ
  have OP4 := Lib.hid (blk_later (blk_later OP.out hb3) hb4)
  have p0 := cell_later (j := 0) OP4.out (Below.refl _ _)
  have p1 := cell_later (j := 1) OP4.out (Below.refl _ _)
  have q0 := cell_later (j := 0) OQ.out (Below.refl _ _)
  have q1 := cell_later (j := 1) OQ.out (Below.refl _ _)
  simp at p0 p1 q0 q1
  have hc4 := chain (chain (chain (chain hb1 hb2) hp2) hb3) hb4
  have t0 := cell_later (j := 0) O1.out hc4
  have t1 := cell_later (j := 1) O1.out hc4
  have t2 := cell_later (j := 2) O1.out hc4
  have t3 := cell_later (j := 3) O1.out hc4
  have t4 := cell_later (j := 4) O1.out hc4
  have t5 := cell_later (j := 5) O1.out hc4
  have t6 := cell_later (j := 6) O1.out hc4
  have t7 := cell_later (j := 7) O1.out hc4
  simp at t0 t1 t2 t3 t4 t5 t6 t7
  have hE4 := Lib.hid (HE.out.below hc4)
  go_wp2_with fail
  try rw [hw4]
  refine (pairs_any _ a0 a1 b0 b1 ax ux ay uy hx0 hx1 hx2 hx3 hy0 hy1 hy2 hy3).mono ?_
  rintro e w5 ⟨g, pl, rfl, hpl, hb5⟩
  have hc5 := chain hc4 hb5
  have hE5 := Lib.hid (hE4.out.below hb5)
  have HPL := Lib.hid hpl
  clear hpl p0 p1 q0 q1 t0 t1 t2 t3 t4 t5 t6 t7
  go_wp2_with fail
  go_loopw [52] (fun iv wr => ∃ i : Nat, i ≤ 5 ∧ iv = .int .i64 (i : Int) ∧ Below w5.heap.size w5 wr) (fun iv _ => 5 - (intOf iv).toNat)
  case atStart => exact ⟨0, by omega, rfl, Below.refl _ _⟩
  case round =>
    obtain ⟨i, hi, rfl, hbr⟩ := hrel
    have hiI : (i : Int) ≤ 5 := by omega
    have hcr := chain hc5 hbr
    by_cases hi5 : i < 5
    · have lg : g < w5.heap.size := World.block_lt_of_cell? _ _ (HPL.out 0 (by omega))
      obtain ⟨e0, he0⟩ : ∃ x, pl.getD (i * 4) 0 = x := ⟨_, rfl⟩
      have s0 : wr.cell? ⟨g, i * 4, none⟩ = some (.int .i64 e0) := by rw [← he0]; exact (hbr.cell (p := ⟨g, i * 4, none⟩) lg).trans (HPL.out _ (by omega))
      obtain ⟨e1, he1⟩ : ∃ x, pl.getD (i * 4 + 1) 0 = x := ⟨_, rfl⟩
      have s1 : wr.cell? ⟨g, i * 4 + 1, none⟩ = some (.int .i64 e1) := by rw [← he1]; exact (hbr.cell (p := ⟨g, i * 4 + 1, none⟩) lg).trans (HPL.out _ (by omega))
      obtain ⟨e2, he2⟩ : ∃ x, pl.getD (i * 4 + 2) 0 = x := ⟨_, rfl⟩
      have s2 : wr.cell? ⟨g, i * 4 + 2, none⟩ = some (.int .i64 e2) := by rw [← he2]; exact (hbr.cell (p := ⟨g, i * 4 + 2, none⟩) lg).trans (HPL.out _ (by omega))
      obtain ⟨e3, he3⟩ : ∃ x, pl.getD (i * 4 + 3) 0 = x := ⟨_, rfl⟩
      have s3 : wr.cell? ⟨g, i * 4 + 3, none⟩ = some (.int .i64 e3) := by rw [← he3]; exact (hbr.cell (p := ⟨g, i * 4 + 3, none⟩) lg).trans (HPL.out _ (by omega))
      clear he0 he1 he2 he3
      obtain ⟨rb, hrb⟩ : ∃ r, oneB e0 e3 ⟨e0, e3, 0⟩ = r := ⟨_, rfl⟩
      have HRB := Lib.hid hrb
      clear hrb
      have hEr := Lib.hid (hE5.out.below hbr)
      go_wp2_with fail
      refine (of_b _ e0 e3).mono ?_
      rintro e v1 ⟨rfl, hv1⟩
      rw [HRB.out]
      have OX := Lib.hid (heap_last wr (.cells #[.int .i64 e0, .int .i64 e1, .int .i64 e2, .int .i64 e3] 32))
      have x0 := cell_later (j := 0) OX.out hv1
      have x1 := cell_later (j := 1) OX.out hv1
      have x2 := cell_later (j := 2) OX.out hv1
      have x3 := cell_later (j := 3) OX.out hv1
      simp at x0 x1 x2 x3
      have hk1 : Below wr.heap.size wr v1 := chain ((Below.refl _ _).alloc (Nat.le_refl _) _) hv1
      have hz1 := hv1.size
      simp at hz1
      have hs1 : wr.heap.size < v1.heap.size := by omega
      go_wp2_with fail
      refine (P4.rof_any _ e0 e3).mono ?_
      rintro e v2 ⟨rfl, hv2⟩
      rw [HRB.out]
      have OB := Lib.hid (heap_last v1 (.cells #[.int .i64 rb.lo, .int .i64 rb.hi] 23))
      have hk2 : Below v1.heap.size v1 v2 := chain ((Below.refl _ _).alloc (Nat.le_refl _) _) hv2
      have OX2 := Lib.hid (blk_later (blk_later OX.out hv1) hk2)
      obtain ⟨v3, hv3⟩ : ∃ x, v2.alloc (.cells #[.int .i64 rb.lo, .int .i64 rb.hi] 23) = x := ⟨_, rfl⟩
      have hk3 : Below v2.heap.size v2 v3 := by rw [← hv3]; exact (Below.refl _ _).alloc (Nat.le_refl _) _
      have OC := Lib.hid (heap_last v2 (.cells #[.int .i64 rb.lo, .int .i64 rb.hi] 23))
      rw [hv3] at OC
      have OX3 := Lib.hid (blk_later OX2.out hk3)
      have OB3 := Lib.hid (blk_later (blk_later OB.out hv2) hk3)
      clear x0 x1 x2 x3 s0 s1 s2 s3 hz1
      obtain ⟨kx, hkx⟩ : ∃ x, chkB e0 e1 = x := ⟨_, rfl⟩
      obtain ⟨kb, hkb⟩ : ∃ x, chkB rb.lo rb.hi = x := ⟨_, rfl⟩
      have HKX := Lib.hid hkx
      have HKB := Lib.hid hkb
      clear hkx hkb
      have hd0 : Below v3.heap.size v3 v3.drew := (Below.refl _ _).drew
      have HS3 : Hid (∀ w', Below v3.heap.size v3 w' → w'.cell? ⟨wr.heap.size, 0, none⟩ = some (.int .i64 e0) ∧ w'.cell? ⟨wr.heap.size, 1, none⟩ = some (.int .i64 e1) ∧ w'.cell? ⟨v1.heap.size, 0, none⟩ = some (.int .i64 rb.lo) ∧ w'.cell? ⟨v1.heap.size, 1, none⟩ = some (.int .i64 rb.hi) ∧ w'.cell? ⟨v2.heap.size, 0, none⟩ = some (.int .i64 rb.lo) ∧ w'.cell? ⟨v2.heap.size, 1, none⟩ = some (.int .i64 rb.hi)) := fun w' h => ⟨(cell_later (j := 0) OX3.out h).trans (by simp), (cell_later (j := 1) OX3.out h).trans (by simp), (cell_later (j := 0) OB3.out h).trans (by simp), (cell_later (j := 1) OB3.out h).trans (by simp), (cell_later (j := 0) OC.out h).trans (by simp), (cell_later (j := 1) OC.out h).trans (by simp)⟩
      go_wp2_with fail
      try rw [hv3]
      go_region_held3 (fun w' => w'.cell? ⟨wr.heap.size, 0, none⟩ = some (.int .i64 e0) ∧ w'.cell? ⟨wr.heap.size, 1, none⟩ = some (.int .i64 e1) ∧ w'.cell? ⟨v1.heap.size, 0, none⟩ = some (.int .i64 rb.lo) ∧ w'.cell? ⟨v1.heap.size, 1, none⟩ = some (.int .i64 rb.hi) ∧ w'.cell? ⟨v2.heap.size, 0, none⟩ = some (.int .i64 rb.lo) ∧ w'.cell? ⟨v2.heap.size, 1, none⟩ = some (.int .i64 rb.hi))
        (first | with_reducible exact HS3.out _ hd0 | with_reducible exact HS3.out _ hd1 | with_reducible exact HS3.out _ hd2 | with_reducible exact HS3.out _ hd3 | with_reducible exact HS3.out _ hd4)
        (first
          | (go_at_call 30; (fail_if_success (have hq := hd1)); (refine (bcheck_any _ e0 e1).mono ?_); rintro e y1 ⟨rfl, hy1'⟩; have hd1 := chain hd0 hy1'; rw [HKX.out])
          | (go_at_call 31; (fail_if_success (have hq := hd2)); (refine (P4.rbcheck_any _ e0 e1).mono ?_); rintro e y2 ⟨rfl, hy2'⟩; have hd2 := chain hd1 hy2'; rw [HKX.out])
          | (go_at_call 30; (refine (bcheck_any _ rb.lo rb.hi).mono ?_); rintro e y3 ⟨rfl, hy3'⟩; have hd3 := chain hd2 hy3'; rw [HKB.out])
          | (go_at_call 31; (refine (P4.rbcheck_any _ rb.lo rb.hi).mono ?_); rintro e y4 ⟨rfl, hy4'⟩; have hd4 := chain hd3 hy4'; rw [HKB.out]))
      have hc7 := chain (chain (chain (chain (chain hcr hk1) hk2) hk3) hd4) (Below.refl _ _)
      go_wp2_with fail
      have HS4 : Hid (∀ w', Below y4.heap.size y4 w' → w'.cell? ⟨w.heap.size + 1, 0, none⟩ = some (.string N) ∧ w'.cell? ⟨w.heap.size + 1, 1, none⟩ = some (.string D) ∧ w'.cell? ⟨w.heap.size + 1 + 1, 0, none⟩ = some (.bool bl) ∧ w'.cell? ⟨w.heap.size + 1 + 1, 1, none⟩ = some (.slice A k c) ∧ w'.cell? ⟨w.heap.size + 1 + 1, 2, none⟩ = some (.int .u16 z) ∧ w'.cell? ⟨w.heap.size + 1 + 1, 3, none⟩ = some (.bool bm) ∧ w'.cell? ⟨w.heap.size + 1 + 1, 4, none⟩ = some (.slice B m dd) ∧ w'.cell? ⟨w.heap.size + 1 + 1, 5, none⟩ = some (.int .u16 y)) := fun w' h => ⟨(cell_later (j := 0) (blk_later O2.out hc7) h).trans (by simp), (cell_later (j := 1) (blk_later O2.out hc7) h).trans (by simp), (cell_later (j := 0) (blk_later O3.out hc7) h).trans (by simp), (cell_later (j := 1) (blk_later O3.out hc7) h).trans (by simp), (cell_later (j := 2) (blk_later O3.out hc7) h).trans (by simp), (cell_later (j := 3) (blk_later O3.out hc7) h).trans (by simp), (cell_later (j := 4) (blk_later O3.out hc7) h).trans (by simp), (cell_later (j := 5) (blk_later O3.out hc7) h).trans (by simp)⟩
      have hf0 : Below y4.heap.size y4 y4.drew := (Below.refl _ _).drew
      have hbd8 := build8
      go_region_held3 (fun w' => w'.cell? ⟨w.heap.size + 1, 0, none⟩ = some (.string N) ∧ w'.cell? ⟨w.heap.size + 1, 1, none⟩ = some (.string D) ∧ w'.cell? ⟨w.heap.size + 1 + 1, 0, none⟩ = some (.bool bl) ∧ w'.cell? ⟨w.heap.size + 1 + 1, 1, none⟩ = some (.slice A k c) ∧ w'.cell? ⟨w.heap.size + 1 + 1, 2, none⟩ = some (.int .u16 z) ∧ w'.cell? ⟨w.heap.size + 1 + 1, 3, none⟩ = some (.bool bm) ∧ w'.cell? ⟨w.heap.size + 1 + 1, 4, none⟩ = some (.slice B m dd) ∧ w'.cell? ⟨w.heap.size + 1 + 1, 5, none⟩ = some (.int .u16 y))
        (first | with_reducible exact HS4.out _ hf0 | with_reducible exact HS4.out _ hf1 | with_reducible exact HS4.out _ hf2 | with_reducible exact HS4.out _ hf3 | with_reducible exact HS4.out _ hf4)
        (first
          | (go_at_call 32; (refine (cut_any _ N D).mono ?_); rintro e v5 ⟨N1, D1, rfl, hn1, hv5⟩; have hf1 := chain hf0 hv5)
          | (go_at_call 33; (refine (P4.draftfrac_any _ bl A k c z xs (HX.out.below (chain hc7 hf1)) HK.out bm B m dd y ys (HY.out.below (chain hc7 hf1)) HL.out hz0 hz1 hyy0 hyy1).mono ?_); rintro e v6 ⟨N2, D2, rfl, hn2, hv6⟩; have hf2 := chain hf1 hv6)
          | (go_at_call 34; (refine (P4.short_any _ bl A k c z xs (HX.out.below (chain hc7 hf2)) HK.out bm B m dd y ys (HY.out.below (chain hc7 hf2)) HL.out).mono ?_); rintro e v7 ⟨p7, b7, rfl, hq7, hv7⟩; have hf3 := chain hf2 hv7; obtain ⟨N3, D3, hT3, hn3⟩ := P4.toldQ_sized (mkRat p7 b7); rw [hT3])
          | (go_at_call 35; (refine (P4.unit_any _ bl A k c z xs (HX.out.below (chain hc7 hf3)) HK.out bm B m dd y ys (HY.out.below (chain hc7 hf3)) HL.out).mono ?_); rintro e v8 ⟨p8, b8, rfl, hq8, hv8⟩; have hf4 := chain hf3 hv8; obtain ⟨N4, D4, hT4, hn4⟩ := P4.toldQ_sized (mkRat p8 b8); rw [hT4]))
      have hc8 := chain hc7 hf4
      have hE8 := Lib.hid (HE.out.below hc8)
      have OX8 := Lib.hid (blk_later (blk_later OX3.out hd4) hf4)
      have hrw8 : Below wr.heap.size wr v8 := chain (chain (chain (chain hk1 hk2) hk3) hd4) hf4
      have hzr := hrw8.size
      have hzr1 := hk1.size
      clear HS3 HS4
      go_wp2_with fail
      obtain ⟨wq, rfl⟩ : ∃ wq : World, wq = wr := ⟨_, rfl⟩
      go_loopw [109] (fun jv wr => ∃ j : Nat, j ≤ 4 ∧ jv = .int .i64 (j : Int) ∧ Below v8.heap.size v8 wr) (fun jv _ => 4 - (intOf jv).toNat)
      case atStart => exact ⟨0, by omega, rfl, Below.refl _ _⟩
      case round =>
        obtain ⟨j, hj, rfl, hbs⟩ := hrel
        have hjI : (j : Int) ≤ 4 := by omega
        by_cases hj4 : j < 4
        · obtain ⟨SA, SB, hsz, hix⟩ := idx8 hn1 hn2 hn3 hn4 j hj4
          obtain ⟨r1, hA1, hA2⟩ := around_both SA SB hsz
          obtain ⟨hb, he, hH1, hH2⟩ := has_both e0 e1 SA SB hsz
          have HA1 := Lib.hid hA1
          have HA2 := Lib.hid hA2
          have HH1 := Lib.hid hH1
          have HH2 := Lib.hid hH2
          clear hA1 hA2 hH1 hH2
          have hEs := Lib.hid (hE8.out.below hbs)
          have OXs := Lib.hid (blk_later OX8.out hbs)
          have hzs := hbs.size
          have hxs : wq.heap.size < wr.heap.size := (Array.getElem?_eq_some_iff.1 OXs.out).1
          go_wp2_with fail
          refine (HA1.out _ (hEs.out.below ((Below.refl _ _).alloc (Nat.le_refl _) _))).mono ?_
          rintro e u1 ⟨rfl, hu1⟩
          have OA := Lib.hid (heap_last wr (.cells #[.string SA, .string SB] 51))
          have m1 : Below wr.heap.size wr u1 := chain ((Below.refl _ _).alloc (Nat.le_refl _) _) hu1
          have g0 := cell_later (j := 0) OA.out hu1
          have g1 := cell_later (j := 1) OA.out hu1
          simp at g0 g1
          have mz1 := hu1.size
          simp at mz1
          have ms1 : wr.heap.size < u1.heap.size := by omega
          go_wp2_with fail
          refine (HA2.out _).mono ?_
          rintro e u2 ⟨rfl, hu2⟩
          have OY1 := Lib.hid (heap_last u1 (.cells #[.int .i64 r1.lo, .int .i64 r1.hi] 23))
          have m2 : Below u1.heap.size u1 u2 := chain ((Below.refl _ _).alloc (Nat.le_refl _) _) hu2
          have mz2 := hu2.size
          simp at mz2
          have ms2 : u1.heap.size < u2.heap.size := by omega
          have ms3 : wr.heap.size < u2.heap.size := by omega
          have ms4 : wq.heap.size < u2.heap.size := by omega
          have OA2 := Lib.hid (blk_later (blk_later OA.out hu1) m2)
          have OX9 := Lib.hid (blk_later (blk_later OXs.out m1) m2)
          obtain ⟨u3, hu3⟩ : ∃ x, u2.alloc (.cells #[.int .i64 r1.lo, .int .i64 r1.hi] 23) = x := ⟨_, rfl⟩
          have m3 : Below u2.heap.size u2 u3 := by rw [← hu3]; exact (Below.refl _ _).alloc (Nat.le_refl _) _
          have OZ1 := Lib.hid (heap_last u2 (.cells #[.int .i64 r1.lo, .int .i64 r1.hi] 23))
          rw [hu3] at OZ1
          have OA3 := Lib.hid (blk_later OA2.out m3)
          have OX10 := Lib.hid (blk_later OX9.out m3)
          have OY3 := Lib.hid (blk_later (blk_later OY1.out hu2) m3)
          clear g0 g1
          have a0 := cell_later (j := 0) OA3.out (Below.refl _ _)
          have a1 := cell_later (j := 1) OA3.out (Below.refl _ _)
          have xx0 := cell_later (j := 0) OX10.out (Below.refl _ _)
          have xx1 := cell_later (j := 1) OX10.out (Below.refl _ _)
          simp at a0 a1 xx0 xx1
          have hE3 := Lib.hid (((hEs.out.below m1).below m2).below m3)
          go_wp2_with fail
          try rw [hu3]
          refine (HH1.out _ hE3.out).mono ?_
          rintro e u4 ⟨rfl, hu4⟩
          have b0' := cell_later (j := 0) OA3.out hu4
          have b1' := cell_later (j := 1) OA3.out hu4
          have xy0 := cell_later (j := 0) OX10.out hu4
          have xy1 := cell_later (j := 1) OX10.out hu4
          simp at b0' b1' xy0 xy1
          clear a0 a1 xx0 xx1
          go_wp2_with fail
          refine (HH2.out _).mono ?_
          rintro e u5 ⟨rfl, hu5⟩
          have m45 := chain hu4 hu5
          have yy0 := cell_later (j := 0) OY3.out m45
          have yy1 := cell_later (j := 1) OY3.out m45
          have zz0 := cell_later (j := 0) OZ1.out m45
          have zz1 := cell_later (j := 1) OZ1.out m45
          simp at yy0 yy1 zz0 zz1
          clear b0' b1' xy0 xy1
          go_wp2_with fail
          refine ⟨⟨j + 1, by omega, by go_num, chain (chain (chain (chain hbs m1) m2) m3) m45⟩, ?_⟩
          simp [intOf] <;> omega
        · obtain rfl : j = 4 := by omega
          go_wp2_with fail
          refine ⟨⟨i + 1, by omega, by go_num, chain (chain hbr hrw8) hbs⟩, ?_⟩
          simp [intOf] <;> omega
    · obtain rfl : i = 5 := by omega
      go_wp2_with fail
      go_ret
      exact ⟨rfl, chain hW hcr⟩
end Go.Proofs.YtkajibniibjblaaGreatDoor
