/-
  BandOrders: the walk.
-/
import Derived.Test.YtkajibniibjblaaGreatDoorPairs
import Derived.Test.YtkajibniibjblaaGreatDoorWorks2
import Derived.Test.YtkajibniibjblaaGreatDoorBandLaws
namespace Go.Proofs.YtkajibniibjblaaGreatDoor
open Go.RowKit
set_option maxRecDepth 100000

/-- What one pair of bands gives the walk of BandOrders. -/
structure Ord (a b c d : Int) (s m t : BR) (x y e1 e2 f o sg se : Int) : Prop where
  add1 : addB a b c d = s
  add2 : addB c d a b = s
  mul1 : mulB a b c d = m
  mul2 : mulB c d a b = m
  neg : negB c d = ⟨-d, -c, 0⟩
  sub1 : subB a b c d = t
  sub2 : addB a b (-d) (-c) = t
  hull : hullB a b c d = ⟨x, y, 0⟩
  meet : meetB a b c d = ⟨e1, e2, f⟩
  in1 : x ≤ a
  in2 : b ≤ y
  in3 : x ≤ c
  in4 : d ≤ y
  cmp : cmpN a b c d = o
  cmpe : cmpE a b c d = 0
  sgn : cmpN t.lo t.hi 0 0 = sg
  sgne : cmpE t.lo t.hi 0 0 = se
  m4 : (f = 0 ∧ o ≠ 1 ∧ o ≠ -1 ∧ a ≤ e1 ∧ e2 ≤ b ∧ c ≤ e1 ∧ e2 ≤ d) ∨ (f = 4 ∧ (o = 1 ∨ o = -1))
  te : t.e ≠ 0 ∨ (t.e = 0 ∧ se = 0 ∧ sg = o)
theorem ord_of {a b c d : Int} (h : okB a b = true) (h' : okB c d = true) : ∃ s m t x y e1 e2 f o sg se, Ord a b c d s m t x y e1 e2 f o sg se := by
  obtain ⟨n1, n2⟩ := sub_add a b c d h'
  obtain ⟨x, y, q1, q2, q3, q4, q5⟩ := hull_in h h'
  have hc : cmpN a b c d = cmpV a b c d := by rw [cmpN, h, h']; rfl
  have hce : cmpE a b c d = 0 := by rw [cmpE, h, h']; rfl
  have hm := meet_in h h'
  have hcm := cmp_meet h h'
  have hsub := cmp_sub (a := a) (b := b) (c := c) (d := d) h h'
  refine ⟨_, _, _, x, y, (meetB a b c d).lo, (meetB a b c d).hi, (meetB a b c d).e, _, _, _, ⟨rfl, (add_comm_ a b c d).symm, rfl, (mul_comm_ a b c d).symm, n1, rfl, n2.symm, q1, rfl, q2, q3, q4, q5, hc, hce, rfl, rfl, ?_, ?_⟩⟩
  · rcases hm with ⟨e, k⟩ | ⟨e, k⟩
    · left
      have hf : ¬ (meetB a b c d).e = 4 := by rw [e]; show ¬ (0 : Int) = 4; decide
      rw [hcm] at hf
      rw [e]
      refine ⟨rfl, fun h => hf (.inl h), fun h => hf (.inr h), ?_, ?_, ?_, ?_⟩ <;> simp only <;> omega
    · right
      have hf : (meetB a b c d).e = 4 := by rw [e]; rfl
      exact ⟨hf, hcm.1 hf⟩
  · by_cases he : (subB a b c d).e = 0
    · right
      obtain ⟨k1, k2⟩ := hsub he
      have h0 : okB 0 0 = true := by decide
      exact ⟨he, by rw [cmpE, k1, h0]; rfl, by rw [cmpN, k1, h0]; exact k2⟩
    · exact .inl he

set_option maxHeartbeats 40000000 in
theorem orders_walk (w : World) (henv : Env2 w) (a0 a1 b0 b1 ax ux ay uy : Int) (hx0 : -9223372036854775808 ≤ ax) (hx1 : ax ≤ 9223372036854775807) (hx2 : 0 ≤ ux) (hx3 : ux ≤ 4294967295) (hy0 : -9223372036854775808 ≤ ay) (hy1 : ay ≤ 9223372036854775807) (hy2 : 0 ≤ uy) (hy3 : uy ≤ 4294967295) :
    Calls Tryz.prog 3 #[.agg #[.int .i64 a0, .int .i64 a1, .int .i64 b0, .int .i64 b1, .int .i64 ax, .int .u32 ux, .int .i64 ay, .int .u32 uy]] w fun e w' => e = .returned (.bool true) ∧ Below w.heap.size w w' := by
  have hW : Below w.heap.size w (w.alloc (.cells #[.int .i64 a0, .int .i64 a1, .int .i64 b0, .int .i64 b1, .int .i64 ax, .int .u32 ux, .int .i64 ay, .int .u32 uy] 28)) := ((Below.refl w.heap.size w).alloc (Nat.le_refl _) _)
  have o1 := heap_last w (.cells #[.int .i64 a0, .int .i64 a1, .int .i64 b0, .int .i64 b1, .int .i64 ax, .int .u32 ux, .int .i64 ay, .int .u32 uy] 28)
  have O1 := Lib.hid o1
  clear o1
  have hsz : (w.alloc (.cells #[.int .i64 a0, .int .i64 a1, .int .i64 b0, .int .i64 b1, .int .i64 ax, .int .u32 ux, .int .i64 ay, .int .u32 uy] 28)).heap.size = w.heap.size + 1 := by simp
  have HSZ := Lib.hid hsz
  clear hsz
  have HE := Lib.hid (henv.below hW)
  clear henv
  go_enter Tryz.func3, Tryz.ntmps3
  go_wp2_with fail
  refine (works_any _ HE.out).mono ?_
  rintro e w1 ⟨rfl, hbw⟩
  have hW1 := chain hW hbw
  have p0 := cell_later (j := 0) O1.out hbw; have p1 := cell_later (j := 1) O1.out hbw; have p2 := cell_later (j := 2) O1.out hbw; have p3 := cell_later (j := 3) O1.out hbw; have p4 := cell_later (j := 4) O1.out hbw; have p5 := cell_later (j := 5) O1.out hbw; have p6 := cell_later (j := 6) O1.out hbw; have p7 := cell_later (j := 7) O1.out hbw
  simp at p0 p1 p2 p3 p4 p5 p6 p7
  go_wp2_with fail
  refine (pairs_any _ a0 a1 b0 b1 ax ux ay uy hx0 hx1 hx2 hx3 hy0 hy1 hy2 hy3).mono ?_
  rintro e w2 ⟨g, x1, x2, y1, y2, s1, s2, t1, t2, ua, ub, v1, v2, z1, z2, rfl, hG, hB1, hB2, hB3, hb2⟩
  have hW2 := chain hW1 hb2
  have lg : g < w2.heap.size := (Array.getElem?_eq_some_iff.1 hG.out).1
  have cg4 : w2.cell? ⟨g, 4, none⟩ = some (.int .i64 x1) := cell_later (w1 := w2) hG.out (Below.refl _ _); have cg5 : w2.cell? ⟨g, 5, none⟩ = some (.int .i64 x2) := cell_later (w1 := w2) hG.out (Below.refl _ _); have cg6 : w2.cell? ⟨g, 6, none⟩ = some (.int .i64 y1) := cell_later (w1 := w2) hG.out (Below.refl _ _); have cg7 : w2.cell? ⟨g, 7, none⟩ = some (.int .i64 y2) := cell_later (w1 := w2) hG.out (Below.refl _ _); have cg8 : w2.cell? ⟨g, 8, none⟩ = some (.int .i64 s1) := cell_later (w1 := w2) hG.out (Below.refl _ _); have cg9 : w2.cell? ⟨g, 9, none⟩ = some (.int .i64 s2) := cell_later (w1 := w2) hG.out (Below.refl _ _); have cg10 : w2.cell? ⟨g, 10, none⟩ = some (.int .i64 t1) := cell_later (w1 := w2) hG.out (Below.refl _ _); have cg11 : w2.cell? ⟨g, 11, none⟩ = some (.int .i64 t2) := cell_later (w1 := w2) hG.out (Below.refl _ _); have cg12 : w2.cell? ⟨g, 12, none⟩ = some (.int .i64 ua) := cell_later (w1 := w2) hG.out (Below.refl _ _); have cg13 : w2.cell? ⟨g, 13, none⟩ = some (.int .i64 ub) := cell_later (w1 := w2) hG.out (Below.refl _ _); have cg14 : w2.cell? ⟨g, 14, none⟩ = some (.int .i64 v1) := cell_later (w1 := w2) hG.out (Below.refl _ _); have cg15 : w2.cell? ⟨g, 15, none⟩ = some (.int .i64 v2) := cell_later (w1 := w2) hG.out (Below.refl _ _)
  clear p0 p1 p2 p3 p4 p5 p6 p7
  go_wp2_with fail
  go_loopw [29] (fun t wr => ∃ k : Nat, k ≤ 3 ∧ t = .int .i64 k ∧ Below w2.heap.size w2 wr) (fun t _ => 3 - (intOf t).toNat)
  case atStart => exact ⟨0, by omega, rfl, Below.refl _ _⟩
  case round =>
    obtain ⟨k, hk, rfl, hbr⟩ := hrel
    have hk4 : k = 0 ∨ k = 1 ∨ k = 2 ∨ k = 3 := by omega
    clear hk
    rcases hk4 with rfl | rfl | rfl | rfl
    · as_aux_lemma =>
        obtain ⟨w0, rfl⟩ : ∃ x : World, x = wr := ⟨_, rfl⟩
        have hc0 := hbr
        obtain ⟨s, m, t, x, y, e1, e2, f, o, sg, se, ho⟩ := ord_of hB1.out.1 hB1.out.2
        have HO := Lib.hid ho
        have z0 := (hbr.cell (p := ⟨g, 4, none⟩) lg).trans cg4
        have z1 := (hbr.cell (p := ⟨g, 5, none⟩) lg).trans cg5
        have z2 := (hbr.cell (p := ⟨g, 6, none⟩) lg).trans cg6
        have z3 := (hbr.cell (p := ⟨g, 7, none⟩) lg).trans cg7
        have m4 := ho.m4
        have te := ho.te
        have i1 := ho.in1
        have i2 := ho.in2
        have i3 := ho.in3
        have i4 := ho.in4
        clear ho
        go_wp2_with fail
        refine (add_b _ x1 x2 y1 y2).mono ?_
        rintro e w1 ⟨rfl, hb1⟩
        rw [HO.out.add1]
        have hl1 := heap_last w0 (.cells #[.int .i64 x1, .int .i64 x2, .int .i64 y1, .int .i64 y2] 32)
        have hk1 : Below w0.heap.size w0 w1 := chain ((Below.refl _ _).alloc (Nat.le_refl _) (.cells #[.int .i64 x1, .int .i64 x2, .int .i64 y1, .int .i64 y2] 32)) hb1
        have hc1 := chain hc0 hk1
        have hz1 := hk1.size
        have cp0 : w1.cell? ⟨w0.heap.size, 0, none⟩ = some (.int .i64 x1) := cell_later hl1 hb1
        have cp1 : w1.cell? ⟨w0.heap.size, 1, none⟩ = some (.int .i64 x2) := cell_later hl1 hb1
        have cp2 : w1.cell? ⟨w0.heap.size, 2, none⟩ = some (.int .i64 y1) := cell_later hl1 hb1
        have cp3 : w1.cell? ⟨w0.heap.size, 3, none⟩ = some (.int .i64 y2) := cell_later hl1 hb1
        have lp := World.block_lt_of_cell? _ _ cp0
        clear hl1
        go_wp2_with fail
        refine (add_b _ y1 y2 x1 x2).mono ?_
        rintro e w2 ⟨rfl, hb2⟩
        rw [HO.out.add2]
        have hl2 := heap_last w1 (.cells #[.int .i64 s.lo, .int .i64 s.hi] 23)
        have hk2 : Below w1.heap.size w1 w2 := chain ((Below.refl _ _).alloc (Nat.le_refl _) (.cells #[.int .i64 s.lo, .int .i64 s.hi] 23)) hb2
        have hc2 := chain hc1 hk2
        have hz2 := hk2.size
        have cp0 := (hk2.cell (p := ⟨w0.heap.size, 0, none⟩) lp).trans cp0
        have cp1 := (hk2.cell (p := ⟨w0.heap.size, 1, none⟩) lp).trans cp1
        have cp2 := (hk2.cell (p := ⟨w0.heap.size, 2, none⟩) lp).trans cp2
        have cp3 := (hk2.cell (p := ⟨w0.heap.size, 3, none⟩) lp).trans cp3
        have lp := Nat.lt_of_lt_of_le lp hk2.size
        have cs0 : w2.cell? ⟨w1.heap.size, 0, none⟩ = some (.int .i64 s.lo) := cell_later hl2 hb2
        have cs1 : w2.cell? ⟨w1.heap.size, 1, none⟩ = some (.int .i64 s.hi) := cell_later hl2 hb2
        have ls := World.block_lt_of_cell? _ _ cs0
        clear hl2
        go_wp2_with fail
        refine (mul_b _ x1 x2 y1 y2).mono ?_
        rintro e w3 ⟨rfl, hb3⟩
        rw [HO.out.mul1]
        have hl3 := heap_last w2 (.cells #[.int .i64 s.lo, .int .i64 s.hi] 23)
        have hk3 : Below w2.heap.size w2 w3 := chain ((Below.refl _ _).alloc (Nat.le_refl _) (.cells #[.int .i64 s.lo, .int .i64 s.hi] 23)) hb3
        have hc3 := chain hc2 hk3
        have hz3 := hk3.size
        have cp0 := (hk3.cell (p := ⟨w0.heap.size, 0, none⟩) lp).trans cp0
        have cp1 := (hk3.cell (p := ⟨w0.heap.size, 1, none⟩) lp).trans cp1
        have cp2 := (hk3.cell (p := ⟨w0.heap.size, 2, none⟩) lp).trans cp2
        have cp3 := (hk3.cell (p := ⟨w0.heap.size, 3, none⟩) lp).trans cp3
        have lp := Nat.lt_of_lt_of_le lp hk3.size
        have cs0 := (hk3.cell (p := ⟨w1.heap.size, 0, none⟩) ls).trans cs0
        have cs1 := (hk3.cell (p := ⟨w1.heap.size, 1, none⟩) ls).trans cs1
        have ls := Nat.lt_of_lt_of_le ls hk3.size
        have cu0 : w3.cell? ⟨w2.heap.size, 0, none⟩ = some (.int .i64 s.lo) := cell_later hl3 hb3
        have cu1 : w3.cell? ⟨w2.heap.size, 1, none⟩ = some (.int .i64 s.hi) := cell_later hl3 hb3
        have lu := World.block_lt_of_cell? _ _ cu0
        clear hl3
        go_wp2_with fail
        refine (mul_b _ y1 y2 x1 x2).mono ?_
        rintro e w4 ⟨rfl, hb4⟩
        rw [HO.out.mul2]
        have hl4 := heap_last w3 (.cells #[.int .i64 m.lo, .int .i64 m.hi] 23)
        have hk4 : Below w3.heap.size w3 w4 := chain ((Below.refl _ _).alloc (Nat.le_refl _) (.cells #[.int .i64 m.lo, .int .i64 m.hi] 23)) hb4
        have hc4 := chain hc3 hk4
        have hz4 := hk4.size
        have cp0 := (hk4.cell (p := ⟨w0.heap.size, 0, none⟩) lp).trans cp0
        have cp1 := (hk4.cell (p := ⟨w0.heap.size, 1, none⟩) lp).trans cp1
        have cp2 := (hk4.cell (p := ⟨w0.heap.size, 2, none⟩) lp).trans cp2
        have cp3 := (hk4.cell (p := ⟨w0.heap.size, 3, none⟩) lp).trans cp3
        have lp := Nat.lt_of_lt_of_le lp hk4.size
        have cs0 := (hk4.cell (p := ⟨w1.heap.size, 0, none⟩) ls).trans cs0
        have cs1 := (hk4.cell (p := ⟨w1.heap.size, 1, none⟩) ls).trans cs1
        have ls := Nat.lt_of_lt_of_le ls hk4.size
        have cu0 := (hk4.cell (p := ⟨w2.heap.size, 0, none⟩) lu).trans cu0
        have cu1 := (hk4.cell (p := ⟨w2.heap.size, 1, none⟩) lu).trans cu1
        have lu := Nat.lt_of_lt_of_le lu hk4.size
        have cm0 : w4.cell? ⟨w3.heap.size, 0, none⟩ = some (.int .i64 m.lo) := cell_later hl4 hb4
        have cm1 : w4.cell? ⟨w3.heap.size, 1, none⟩ = some (.int .i64 m.hi) := cell_later hl4 hb4
        have lm := World.block_lt_of_cell? _ _ cm0
        clear hl4
        go_wp2_with fail
        refine (neg_c _ y1 y2).mono ?_
        rintro e w5 ⟨rfl, hb5⟩
        rw [HO.out.neg]
        have hl5 := heap_last w4 (.cells #[.int .i64 m.lo, .int .i64 m.hi] 23)
        have hk5 : Below w4.heap.size w4 w5 := chain ((Below.refl _ _).alloc (Nat.le_refl _) (.cells #[.int .i64 m.lo, .int .i64 m.hi] 23)) hb5
        have hc5 := chain hc4 hk5
        have hz5 := hk5.size
        have cp0 := (hk5.cell (p := ⟨w0.heap.size, 0, none⟩) lp).trans cp0
        have cp1 := (hk5.cell (p := ⟨w0.heap.size, 1, none⟩) lp).trans cp1
        have cp2 := (hk5.cell (p := ⟨w0.heap.size, 2, none⟩) lp).trans cp2
        have cp3 := (hk5.cell (p := ⟨w0.heap.size, 3, none⟩) lp).trans cp3
        have lp := Nat.lt_of_lt_of_le lp hk5.size
        have cs0 := (hk5.cell (p := ⟨w1.heap.size, 0, none⟩) ls).trans cs0
        have cs1 := (hk5.cell (p := ⟨w1.heap.size, 1, none⟩) ls).trans cs1
        have ls := Nat.lt_of_lt_of_le ls hk5.size
        have cu0 := (hk5.cell (p := ⟨w2.heap.size, 0, none⟩) lu).trans cu0
        have cu1 := (hk5.cell (p := ⟨w2.heap.size, 1, none⟩) lu).trans cu1
        have lu := Nat.lt_of_lt_of_le lu hk5.size
        have cm0 := (hk5.cell (p := ⟨w3.heap.size, 0, none⟩) lm).trans cm0
        have cm1 := (hk5.cell (p := ⟨w3.heap.size, 1, none⟩) lm).trans cm1
        have lm := Nat.lt_of_lt_of_le lm hk5.size
        have cn0 : w5.cell? ⟨w4.heap.size, 0, none⟩ = some (.int .i64 m.lo) := cell_later hl5 hb5
        have cn1 : w5.cell? ⟨w4.heap.size, 1, none⟩ = some (.int .i64 m.hi) := cell_later hl5 hb5
        have ln := World.block_lt_of_cell? _ _ cn0
        clear hl5
        go_wp2_with fail
        refine (sub_c _ x1 x2 y1 y2).mono ?_
        rintro e w6 ⟨rfl, hb6⟩
        rw [HO.out.sub1]
        have hl6 := heap_last w5 (.cells #[.int .i64 (-y2), .int .i64 (-y1)] 23)
        have hk6 : Below w5.heap.size w5 w6 := chain ((Below.refl _ _).alloc (Nat.le_refl _) (.cells #[.int .i64 (-y2), .int .i64 (-y1)] 23)) hb6
        have hc6 := chain hc5 hk6
        have hz6 := hk6.size
        have cp0 := (hk6.cell (p := ⟨w0.heap.size, 0, none⟩) lp).trans cp0
        have cp1 := (hk6.cell (p := ⟨w0.heap.size, 1, none⟩) lp).trans cp1
        have cp2 := (hk6.cell (p := ⟨w0.heap.size, 2, none⟩) lp).trans cp2
        have cp3 := (hk6.cell (p := ⟨w0.heap.size, 3, none⟩) lp).trans cp3
        have lp := Nat.lt_of_lt_of_le lp hk6.size
        have cs0 := (hk6.cell (p := ⟨w1.heap.size, 0, none⟩) ls).trans cs0
        have cs1 := (hk6.cell (p := ⟨w1.heap.size, 1, none⟩) ls).trans cs1
        have ls := Nat.lt_of_lt_of_le ls hk6.size
        have cu0 := (hk6.cell (p := ⟨w2.heap.size, 0, none⟩) lu).trans cu0
        have cu1 := (hk6.cell (p := ⟨w2.heap.size, 1, none⟩) lu).trans cu1
        have lu := Nat.lt_of_lt_of_le lu hk6.size
        have cm0 := (hk6.cell (p := ⟨w3.heap.size, 0, none⟩) lm).trans cm0
        have cm1 := (hk6.cell (p := ⟨w3.heap.size, 1, none⟩) lm).trans cm1
        have lm := Nat.lt_of_lt_of_le lm hk6.size
        have cn0 := (hk6.cell (p := ⟨w4.heap.size, 0, none⟩) ln).trans cn0
        have cn1 := (hk6.cell (p := ⟨w4.heap.size, 1, none⟩) ln).trans cn1
        have ln := Nat.lt_of_lt_of_le ln hk6.size
        have ci0 : w6.cell? ⟨w5.heap.size, 0, none⟩ = some (.int .i64 (-y2)) := cell_later hl6 hb6
        have ci1 : w6.cell? ⟨w5.heap.size, 1, none⟩ = some (.int .i64 (-y1)) := cell_later hl6 hb6
        have li := World.block_lt_of_cell? _ _ ci0
        clear hl6
        go_wp2_with fail
        refine (add_b _ x1 x2 (-y2) (-y1)).mono ?_
        rintro e w7 ⟨rfl, hb7⟩
        rw [HO.out.sub2]
        have hl7 := heap_last w6 (.cells #[.int .i64 t.lo, .int .i64 t.hi] 23)
        have hk7 : Below w6.heap.size w6 w7 := chain ((Below.refl _ _).alloc (Nat.le_refl _) (.cells #[.int .i64 t.lo, .int .i64 t.hi] 23)) hb7
        have hc7 := chain hc6 hk7
        have hz7 := hk7.size
        have cp0 := (hk7.cell (p := ⟨w0.heap.size, 0, none⟩) lp).trans cp0
        have cp1 := (hk7.cell (p := ⟨w0.heap.size, 1, none⟩) lp).trans cp1
        have cp2 := (hk7.cell (p := ⟨w0.heap.size, 2, none⟩) lp).trans cp2
        have cp3 := (hk7.cell (p := ⟨w0.heap.size, 3, none⟩) lp).trans cp3
        have lp := Nat.lt_of_lt_of_le lp hk7.size
        have cs0 := (hk7.cell (p := ⟨w1.heap.size, 0, none⟩) ls).trans cs0
        have cs1 := (hk7.cell (p := ⟨w1.heap.size, 1, none⟩) ls).trans cs1
        have ls := Nat.lt_of_lt_of_le ls hk7.size
        have cu0 := (hk7.cell (p := ⟨w2.heap.size, 0, none⟩) lu).trans cu0
        have cu1 := (hk7.cell (p := ⟨w2.heap.size, 1, none⟩) lu).trans cu1
        have lu := Nat.lt_of_lt_of_le lu hk7.size
        have cm0 := (hk7.cell (p := ⟨w3.heap.size, 0, none⟩) lm).trans cm0
        have cm1 := (hk7.cell (p := ⟨w3.heap.size, 1, none⟩) lm).trans cm1
        have lm := Nat.lt_of_lt_of_le lm hk7.size
        have cn0 := (hk7.cell (p := ⟨w4.heap.size, 0, none⟩) ln).trans cn0
        have cn1 := (hk7.cell (p := ⟨w4.heap.size, 1, none⟩) ln).trans cn1
        have ln := Nat.lt_of_lt_of_le ln hk7.size
        have ci0 := (hk7.cell (p := ⟨w5.heap.size, 0, none⟩) li).trans ci0
        have ci1 := (hk7.cell (p := ⟨w5.heap.size, 1, none⟩) li).trans ci1
        have li := Nat.lt_of_lt_of_le li hk7.size
        have cd0 : w7.cell? ⟨w6.heap.size, 0, none⟩ = some (.int .i64 t.lo) := cell_later hl7 hb7
        have cd1 : w7.cell? ⟨w6.heap.size, 1, none⟩ = some (.int .i64 t.hi) := cell_later hl7 hb7
        have ld := World.block_lt_of_cell? _ _ cd0
        clear hl7
        go_wp2_with fail
        refine (hull_b _ x1 x2 y1 y2).mono ?_
        rintro e w8 ⟨rfl, hb8⟩
        rw [HO.out.hull]
        have hl8 := heap_last w7 (.cells #[.int .i64 t.lo, .int .i64 t.hi] 23)
        have hk8 : Below w7.heap.size w7 w8 := chain ((Below.refl _ _).alloc (Nat.le_refl _) (.cells #[.int .i64 t.lo, .int .i64 t.hi] 23)) hb8
        have hc8 := chain hc7 hk8
        have hz8 := hk8.size
        have cp0 := (hk8.cell (p := ⟨w0.heap.size, 0, none⟩) lp).trans cp0
        have cp1 := (hk8.cell (p := ⟨w0.heap.size, 1, none⟩) lp).trans cp1
        have cp2 := (hk8.cell (p := ⟨w0.heap.size, 2, none⟩) lp).trans cp2
        have cp3 := (hk8.cell (p := ⟨w0.heap.size, 3, none⟩) lp).trans cp3
        have lp := Nat.lt_of_lt_of_le lp hk8.size
        clear cs0 cs1 ls
        clear cu0 cu1 lu
        clear cm0 cm1 lm
        clear cn0 cn1 ln
        clear ci0 ci1 li
        have cd0 := (hk8.cell (p := ⟨w6.heap.size, 0, none⟩) ld).trans cd0
        have cd1 := (hk8.cell (p := ⟨w6.heap.size, 1, none⟩) ld).trans cd1
        have ld := Nat.lt_of_lt_of_le ld hk8.size
        have cc0 : w8.cell? ⟨w7.heap.size, 0, none⟩ = some (.int .i64 t.lo) := cell_later hl8 hb8
        have cc1 : w8.cell? ⟨w7.heap.size, 1, none⟩ = some (.int .i64 t.hi) := cell_later hl8 hb8
        have lc := World.block_lt_of_cell? _ _ cc0
        clear hl8
        go_wp2_with fail
        refine (meet_b _ x1 x2 y1 y2).mono ?_
        rintro e w9 ⟨rfl, hb9⟩
        rw [HO.out.meet]
        have hl9 := heap_last w8 (.cells #[.int .i64 x, .int .i64 y] 23)
        have hk9 : Below w8.heap.size w8 w9 := chain ((Below.refl _ _).alloc (Nat.le_refl _) (.cells #[.int .i64 x, .int .i64 y] 23)) hb9
        have hc9 := chain hc8 hk9
        have hz9 := hk9.size
        have cp0 := (hk9.cell (p := ⟨w0.heap.size, 0, none⟩) lp).trans cp0
        have cp1 := (hk9.cell (p := ⟨w0.heap.size, 1, none⟩) lp).trans cp1
        have cp2 := (hk9.cell (p := ⟨w0.heap.size, 2, none⟩) lp).trans cp2
        have cp3 := (hk9.cell (p := ⟨w0.heap.size, 3, none⟩) lp).trans cp3
        have lp := Nat.lt_of_lt_of_le lp hk9.size
        have cd0 := (hk9.cell (p := ⟨w6.heap.size, 0, none⟩) ld).trans cd0
        have cd1 := (hk9.cell (p := ⟨w6.heap.size, 1, none⟩) ld).trans cd1
        have ld := Nat.lt_of_lt_of_le ld hk9.size
        have cc0 := (hk9.cell (p := ⟨w7.heap.size, 0, none⟩) lc).trans cc0
        have cc1 := (hk9.cell (p := ⟨w7.heap.size, 1, none⟩) lc).trans cc1
        have lc := Nat.lt_of_lt_of_le lc hk9.size
        have ch0 : w9.cell? ⟨w8.heap.size, 0, none⟩ = some (.int .i64 x) := cell_later hl9 hb9
        have ch1 : w9.cell? ⟨w8.heap.size, 1, none⟩ = some (.int .i64 y) := cell_later hl9 hb9
        have lh := World.block_lt_of_cell? _ _ ch0
        clear hl9
        rcases m4 with ⟨rfl, o1, o2, j1, j2, j3, j4⟩ | ⟨rfl, rfl | rfl⟩
        · have o1' : (o == 1) = false := by simp [o1]
          have o2' : (o == -1) = false := by simp [o2]
          go_wp2_with fail
          refine (inside_ok _ _ _ _ _ i1 i2).mono ?_
          rintro e w10 ⟨rfl, hb10⟩
          have hl10 := heap_last w9 (.cells #[.int .i64 e1, .int .i64 e2] 23)
          have hk10 : Below w9.heap.size w9 w10 := chain ((Below.refl _ _).alloc (Nat.le_refl _) (.cells #[.int .i64 e1, .int .i64 e2] 23)) hb10
          have hc10 := chain hc9 hk10
          have hz10 := hk10.size
          have cp0 := (hk10.cell (p := ⟨w0.heap.size, 0, none⟩) lp).trans cp0
          have cp1 := (hk10.cell (p := ⟨w0.heap.size, 1, none⟩) lp).trans cp1
          have cp2 := (hk10.cell (p := ⟨w0.heap.size, 2, none⟩) lp).trans cp2
          have cp3 := (hk10.cell (p := ⟨w0.heap.size, 3, none⟩) lp).trans cp3
          have lp := Nat.lt_of_lt_of_le lp hk10.size
          have cd0 := (hk10.cell (p := ⟨w6.heap.size, 0, none⟩) ld).trans cd0
          have cd1 := (hk10.cell (p := ⟨w6.heap.size, 1, none⟩) ld).trans cd1
          have ld := Nat.lt_of_lt_of_le ld hk10.size
          have cc0 := (hk10.cell (p := ⟨w7.heap.size, 0, none⟩) lc).trans cc0
          have cc1 := (hk10.cell (p := ⟨w7.heap.size, 1, none⟩) lc).trans cc1
          have lc := Nat.lt_of_lt_of_le lc hk10.size
          have ch0 := (hk10.cell (p := ⟨w8.heap.size, 0, none⟩) lh).trans ch0
          have ch1 := (hk10.cell (p := ⟨w8.heap.size, 1, none⟩) lh).trans ch1
          have lh := Nat.lt_of_lt_of_le lh hk10.size
          have ce0 : w10.cell? ⟨w9.heap.size, 0, none⟩ = some (.int .i64 e1) := cell_later hl10 hb10
          have ce1 : w10.cell? ⟨w9.heap.size, 1, none⟩ = some (.int .i64 e2) := cell_later hl10 hb10
          have le := World.block_lt_of_cell? _ _ ce0
          clear hl10
          go_wp2_with fail
          refine (inside_ok _ _ _ _ _ i3 i4).mono ?_
          rintro e w11 ⟨rfl, hb11⟩
          have hk11 := hb11
          have hc11 := chain hc10 hk11
          have hz11 := hk11.size
          have cp0 := (hk11.cell (p := ⟨w0.heap.size, 0, none⟩) lp).trans cp0
          have cp1 := (hk11.cell (p := ⟨w0.heap.size, 1, none⟩) lp).trans cp1
          have cp2 := (hk11.cell (p := ⟨w0.heap.size, 2, none⟩) lp).trans cp2
          have cp3 := (hk11.cell (p := ⟨w0.heap.size, 3, none⟩) lp).trans cp3
          have lp := Nat.lt_of_lt_of_le lp hk11.size
          have cd0 := (hk11.cell (p := ⟨w6.heap.size, 0, none⟩) ld).trans cd0
          have cd1 := (hk11.cell (p := ⟨w6.heap.size, 1, none⟩) ld).trans cd1
          have ld := Nat.lt_of_lt_of_le ld hk11.size
          have cc0 := (hk11.cell (p := ⟨w7.heap.size, 0, none⟩) lc).trans cc0
          have cc1 := (hk11.cell (p := ⟨w7.heap.size, 1, none⟩) lc).trans cc1
          have lc := Nat.lt_of_lt_of_le lc hk11.size
          have ch0 := (hk11.cell (p := ⟨w8.heap.size, 0, none⟩) lh).trans ch0
          have ch1 := (hk11.cell (p := ⟨w8.heap.size, 1, none⟩) lh).trans ch1
          have lh := Nat.lt_of_lt_of_le lh hk11.size
          have ce0 := (hk11.cell (p := ⟨w9.heap.size, 0, none⟩) le).trans ce0
          have ce1 := (hk11.cell (p := ⟨w9.heap.size, 1, none⟩) le).trans ce1
          have le := Nat.lt_of_lt_of_le le hk11.size
          go_wp2_with fail
          refine (inside_ok _ _ _ _ _ j1 j2).mono ?_
          rintro e w12 ⟨rfl, hb12⟩
          have hk12 := hb12
          have hc12 := chain hc11 hk12
          have hz12 := hk12.size
          have cp0 := (hk12.cell (p := ⟨w0.heap.size, 0, none⟩) lp).trans cp0
          have cp1 := (hk12.cell (p := ⟨w0.heap.size, 1, none⟩) lp).trans cp1
          have cp2 := (hk12.cell (p := ⟨w0.heap.size, 2, none⟩) lp).trans cp2
          have cp3 := (hk12.cell (p := ⟨w0.heap.size, 3, none⟩) lp).trans cp3
          have lp := Nat.lt_of_lt_of_le lp hk12.size
          have cd0 := (hk12.cell (p := ⟨w6.heap.size, 0, none⟩) ld).trans cd0
          have cd1 := (hk12.cell (p := ⟨w6.heap.size, 1, none⟩) ld).trans cd1
          have ld := Nat.lt_of_lt_of_le ld hk12.size
          have cc0 := (hk12.cell (p := ⟨w7.heap.size, 0, none⟩) lc).trans cc0
          have cc1 := (hk12.cell (p := ⟨w7.heap.size, 1, none⟩) lc).trans cc1
          have lc := Nat.lt_of_lt_of_le lc hk12.size
          have ch0 := (hk12.cell (p := ⟨w8.heap.size, 0, none⟩) lh).trans ch0
          have ch1 := (hk12.cell (p := ⟨w8.heap.size, 1, none⟩) lh).trans ch1
          have lh := Nat.lt_of_lt_of_le lh hk12.size
          have ce0 := (hk12.cell (p := ⟨w9.heap.size, 0, none⟩) le).trans ce0
          have ce1 := (hk12.cell (p := ⟨w9.heap.size, 1, none⟩) le).trans ce1
          have le := Nat.lt_of_lt_of_le le hk12.size
          go_wp2_with fail
          refine (inside_ok _ _ _ _ _ j3 j4).mono ?_
          rintro e w13 ⟨rfl, hb13⟩
          have hk13 := hb13
          have hc13 := chain hc12 hk13
          have hz13 := hk13.size
          have cp0 := (hk13.cell (p := ⟨w0.heap.size, 0, none⟩) lp).trans cp0
          have cp1 := (hk13.cell (p := ⟨w0.heap.size, 1, none⟩) lp).trans cp1
          have cp2 := (hk13.cell (p := ⟨w0.heap.size, 2, none⟩) lp).trans cp2
          have cp3 := (hk13.cell (p := ⟨w0.heap.size, 3, none⟩) lp).trans cp3
          have lp := Nat.lt_of_lt_of_le lp hk13.size
          have cd0 := (hk13.cell (p := ⟨w6.heap.size, 0, none⟩) ld).trans cd0
          have cd1 := (hk13.cell (p := ⟨w6.heap.size, 1, none⟩) ld).trans cd1
          have ld := Nat.lt_of_lt_of_le ld hk13.size
          have cc0 := (hk13.cell (p := ⟨w7.heap.size, 0, none⟩) lc).trans cc0
          have cc1 := (hk13.cell (p := ⟨w7.heap.size, 1, none⟩) lc).trans cc1
          have lc := Nat.lt_of_lt_of_le lc hk13.size
          have ch0 := (hk13.cell (p := ⟨w8.heap.size, 0, none⟩) lh).trans ch0
          have ch1 := (hk13.cell (p := ⟨w8.heap.size, 1, none⟩) lh).trans ch1
          have lh := Nat.lt_of_lt_of_le lh hk13.size
          have ce0 := (hk13.cell (p := ⟨w9.heap.size, 0, none⟩) le).trans ce0
          have ce1 := (hk13.cell (p := ⟨w9.heap.size, 1, none⟩) le).trans ce1
          have le := Nat.lt_of_lt_of_le le hk13.size
          go_wp2_with fail
          refine (cmp_b _ x1 x2 y1 y2).mono ?_
          rintro e w14 ⟨rfl, hb14⟩
          rw [HO.out.cmp]
          rw [HO.out.cmpe]
          have hk14 := hb14
          have hc14 := chain hc13 hk14
          have hz14 := hk14.size
          clear cp0 cp1 cp2 cp3 lp
          have cd0 := (hk14.cell (p := ⟨w6.heap.size, 0, none⟩) ld).trans cd0
          have cd1 := (hk14.cell (p := ⟨w6.heap.size, 1, none⟩) ld).trans cd1
          have ld := Nat.lt_of_lt_of_le ld hk14.size
          clear cc0 cc1 lc
          clear ch0 ch1 lh
          clear ce0 ce1 le
          go_wp2_with fail
          refine (sign_b _ t.lo t.hi).mono ?_
          rintro e w15 ⟨rfl, hb15⟩
          rw [HO.out.sgn]
          rw [HO.out.sgne]
          have hk15 := hb15
          have hc15 := chain hc14 hk15
          have hz15 := hk15.size
          have cd0 := (hk15.cell (p := ⟨w6.heap.size, 0, none⟩) ld).trans cd0
          have cd1 := (hk15.cell (p := ⟨w6.heap.size, 1, none⟩) ld).trans cd1
          have ld := Nat.lt_of_lt_of_le ld hk15.size
          rcases te with te | ⟨te, rfl, rfl⟩
          · have te' : (t.e == 0) = false := by simp [te]
            go_wp2_with fail
            go_roundw
            case rel => exact ⟨1, by omega, rfl, hc15⟩
            case measure => simp [intOf]
          · have te' : (t.e == 0) = true := by simp [te]
            go_wp2_with fail
            go_roundw
            case rel => exact ⟨1, by omega, rfl, hc15⟩
            case measure => simp [intOf]
        · go_wp2_with fail
          refine (inside_ok _ _ _ _ _ i1 i2).mono ?_
          rintro e w10 ⟨rfl, hb10⟩
          have hl10 := heap_last w9 (.cells #[.int .i64 e1, .int .i64 e2] 23)
          have hk10 : Below w9.heap.size w9 w10 := chain ((Below.refl _ _).alloc (Nat.le_refl _) (.cells #[.int .i64 e1, .int .i64 e2] 23)) hb10
          have hc10 := chain hc9 hk10
          have hz10 := hk10.size
          have cp0 := (hk10.cell (p := ⟨w0.heap.size, 0, none⟩) lp).trans cp0
          have cp1 := (hk10.cell (p := ⟨w0.heap.size, 1, none⟩) lp).trans cp1
          have cp2 := (hk10.cell (p := ⟨w0.heap.size, 2, none⟩) lp).trans cp2
          have cp3 := (hk10.cell (p := ⟨w0.heap.size, 3, none⟩) lp).trans cp3
          have lp := Nat.lt_of_lt_of_le lp hk10.size
          have cd0 := (hk10.cell (p := ⟨w6.heap.size, 0, none⟩) ld).trans cd0
          have cd1 := (hk10.cell (p := ⟨w6.heap.size, 1, none⟩) ld).trans cd1
          have ld := Nat.lt_of_lt_of_le ld hk10.size
          have cc0 := (hk10.cell (p := ⟨w7.heap.size, 0, none⟩) lc).trans cc0
          have cc1 := (hk10.cell (p := ⟨w7.heap.size, 1, none⟩) lc).trans cc1
          have lc := Nat.lt_of_lt_of_le lc hk10.size
          have ch0 := (hk10.cell (p := ⟨w8.heap.size, 0, none⟩) lh).trans ch0
          have ch1 := (hk10.cell (p := ⟨w8.heap.size, 1, none⟩) lh).trans ch1
          have lh := Nat.lt_of_lt_of_le lh hk10.size
          have ce0 : w10.cell? ⟨w9.heap.size, 0, none⟩ = some (.int .i64 e1) := cell_later hl10 hb10
          have ce1 : w10.cell? ⟨w9.heap.size, 1, none⟩ = some (.int .i64 e2) := cell_later hl10 hb10
          have le := World.block_lt_of_cell? _ _ ce0
          clear hl10
          go_wp2_with fail
          refine (inside_ok _ _ _ _ _ i3 i4).mono ?_
          rintro e w11 ⟨rfl, hb11⟩
          have hk11 := hb11
          have hc11 := chain hc10 hk11
          have hz11 := hk11.size
          have cp0 := (hk11.cell (p := ⟨w0.heap.size, 0, none⟩) lp).trans cp0
          have cp1 := (hk11.cell (p := ⟨w0.heap.size, 1, none⟩) lp).trans cp1
          have cp2 := (hk11.cell (p := ⟨w0.heap.size, 2, none⟩) lp).trans cp2
          have cp3 := (hk11.cell (p := ⟨w0.heap.size, 3, none⟩) lp).trans cp3
          have lp := Nat.lt_of_lt_of_le lp hk11.size
          have cd0 := (hk11.cell (p := ⟨w6.heap.size, 0, none⟩) ld).trans cd0
          have cd1 := (hk11.cell (p := ⟨w6.heap.size, 1, none⟩) ld).trans cd1
          have ld := Nat.lt_of_lt_of_le ld hk11.size
          have cc0 := (hk11.cell (p := ⟨w7.heap.size, 0, none⟩) lc).trans cc0
          have cc1 := (hk11.cell (p := ⟨w7.heap.size, 1, none⟩) lc).trans cc1
          have lc := Nat.lt_of_lt_of_le lc hk11.size
          have ch0 := (hk11.cell (p := ⟨w8.heap.size, 0, none⟩) lh).trans ch0
          have ch1 := (hk11.cell (p := ⟨w8.heap.size, 1, none⟩) lh).trans ch1
          have lh := Nat.lt_of_lt_of_le lh hk11.size
          have ce0 := (hk11.cell (p := ⟨w9.heap.size, 0, none⟩) le).trans ce0
          have ce1 := (hk11.cell (p := ⟨w9.heap.size, 1, none⟩) le).trans ce1
          have le := Nat.lt_of_lt_of_le le hk11.size
          go_wp2_with fail
          refine (cmp_b _ x1 x2 y1 y2).mono ?_
          rintro e w12 ⟨rfl, hb12⟩
          rw [HO.out.cmp]
          rw [HO.out.cmpe]
          have hk12 := hb12
          have hc12 := chain hc11 hk12
          have hz12 := hk12.size
          clear cp0 cp1 cp2 cp3 lp
          have cd0 := (hk12.cell (p := ⟨w6.heap.size, 0, none⟩) ld).trans cd0
          have cd1 := (hk12.cell (p := ⟨w6.heap.size, 1, none⟩) ld).trans cd1
          have ld := Nat.lt_of_lt_of_le ld hk12.size
          clear cc0 cc1 lc
          clear ch0 ch1 lh
          clear ce0 ce1 le
          go_wp2_with fail
          refine (sign_b _ t.lo t.hi).mono ?_
          rintro e w13 ⟨rfl, hb13⟩
          rw [HO.out.sgn]
          rw [HO.out.sgne]
          have hk13 := hb13
          have hc13 := chain hc12 hk13
          have hz13 := hk13.size
          have cd0 := (hk13.cell (p := ⟨w6.heap.size, 0, none⟩) ld).trans cd0
          have cd1 := (hk13.cell (p := ⟨w6.heap.size, 1, none⟩) ld).trans cd1
          have ld := Nat.lt_of_lt_of_le ld hk13.size
          rcases te with te | ⟨te, rfl, rfl⟩
          · have te' : (t.e == 0) = false := by simp [te]
            go_wp2_with fail
            go_roundw
            case rel => exact ⟨1, by omega, rfl, hc13⟩
            case measure => simp [intOf]
          · have te' : (t.e == 0) = true := by simp [te]
            go_wp2_with fail
            go_roundw
            case rel => exact ⟨1, by omega, rfl, hc13⟩
            case measure => simp [intOf]
        · go_wp2_with fail
          refine (inside_ok _ _ _ _ _ i1 i2).mono ?_
          rintro e w10 ⟨rfl, hb10⟩
          have hl10 := heap_last w9 (.cells #[.int .i64 e1, .int .i64 e2] 23)
          have hk10 : Below w9.heap.size w9 w10 := chain ((Below.refl _ _).alloc (Nat.le_refl _) (.cells #[.int .i64 e1, .int .i64 e2] 23)) hb10
          have hc10 := chain hc9 hk10
          have hz10 := hk10.size
          have cp0 := (hk10.cell (p := ⟨w0.heap.size, 0, none⟩) lp).trans cp0
          have cp1 := (hk10.cell (p := ⟨w0.heap.size, 1, none⟩) lp).trans cp1
          have cp2 := (hk10.cell (p := ⟨w0.heap.size, 2, none⟩) lp).trans cp2
          have cp3 := (hk10.cell (p := ⟨w0.heap.size, 3, none⟩) lp).trans cp3
          have lp := Nat.lt_of_lt_of_le lp hk10.size
          have cd0 := (hk10.cell (p := ⟨w6.heap.size, 0, none⟩) ld).trans cd0
          have cd1 := (hk10.cell (p := ⟨w6.heap.size, 1, none⟩) ld).trans cd1
          have ld := Nat.lt_of_lt_of_le ld hk10.size
          have cc0 := (hk10.cell (p := ⟨w7.heap.size, 0, none⟩) lc).trans cc0
          have cc1 := (hk10.cell (p := ⟨w7.heap.size, 1, none⟩) lc).trans cc1
          have lc := Nat.lt_of_lt_of_le lc hk10.size
          have ch0 := (hk10.cell (p := ⟨w8.heap.size, 0, none⟩) lh).trans ch0
          have ch1 := (hk10.cell (p := ⟨w8.heap.size, 1, none⟩) lh).trans ch1
          have lh := Nat.lt_of_lt_of_le lh hk10.size
          have ce0 : w10.cell? ⟨w9.heap.size, 0, none⟩ = some (.int .i64 e1) := cell_later hl10 hb10
          have ce1 : w10.cell? ⟨w9.heap.size, 1, none⟩ = some (.int .i64 e2) := cell_later hl10 hb10
          have le := World.block_lt_of_cell? _ _ ce0
          clear hl10
          go_wp2_with fail
          refine (inside_ok _ _ _ _ _ i3 i4).mono ?_
          rintro e w11 ⟨rfl, hb11⟩
          have hk11 := hb11
          have hc11 := chain hc10 hk11
          have hz11 := hk11.size
          have cp0 := (hk11.cell (p := ⟨w0.heap.size, 0, none⟩) lp).trans cp0
          have cp1 := (hk11.cell (p := ⟨w0.heap.size, 1, none⟩) lp).trans cp1
          have cp2 := (hk11.cell (p := ⟨w0.heap.size, 2, none⟩) lp).trans cp2
          have cp3 := (hk11.cell (p := ⟨w0.heap.size, 3, none⟩) lp).trans cp3
          have lp := Nat.lt_of_lt_of_le lp hk11.size
          have cd0 := (hk11.cell (p := ⟨w6.heap.size, 0, none⟩) ld).trans cd0
          have cd1 := (hk11.cell (p := ⟨w6.heap.size, 1, none⟩) ld).trans cd1
          have ld := Nat.lt_of_lt_of_le ld hk11.size
          have cc0 := (hk11.cell (p := ⟨w7.heap.size, 0, none⟩) lc).trans cc0
          have cc1 := (hk11.cell (p := ⟨w7.heap.size, 1, none⟩) lc).trans cc1
          have lc := Nat.lt_of_lt_of_le lc hk11.size
          have ch0 := (hk11.cell (p := ⟨w8.heap.size, 0, none⟩) lh).trans ch0
          have ch1 := (hk11.cell (p := ⟨w8.heap.size, 1, none⟩) lh).trans ch1
          have lh := Nat.lt_of_lt_of_le lh hk11.size
          have ce0 := (hk11.cell (p := ⟨w9.heap.size, 0, none⟩) le).trans ce0
          have ce1 := (hk11.cell (p := ⟨w9.heap.size, 1, none⟩) le).trans ce1
          have le := Nat.lt_of_lt_of_le le hk11.size
          go_wp2_with fail
          refine (cmp_b _ x1 x2 y1 y2).mono ?_
          rintro e w12 ⟨rfl, hb12⟩
          rw [HO.out.cmp]
          rw [HO.out.cmpe]
          have hk12 := hb12
          have hc12 := chain hc11 hk12
          have hz12 := hk12.size
          clear cp0 cp1 cp2 cp3 lp
          have cd0 := (hk12.cell (p := ⟨w6.heap.size, 0, none⟩) ld).trans cd0
          have cd1 := (hk12.cell (p := ⟨w6.heap.size, 1, none⟩) ld).trans cd1
          have ld := Nat.lt_of_lt_of_le ld hk12.size
          clear cc0 cc1 lc
          clear ch0 ch1 lh
          clear ce0 ce1 le
          go_wp2_with fail
          refine (sign_b _ t.lo t.hi).mono ?_
          rintro e w13 ⟨rfl, hb13⟩
          rw [HO.out.sgn]
          rw [HO.out.sgne]
          have hk13 := hb13
          have hc13 := chain hc12 hk13
          have hz13 := hk13.size
          have cd0 := (hk13.cell (p := ⟨w6.heap.size, 0, none⟩) ld).trans cd0
          have cd1 := (hk13.cell (p := ⟨w6.heap.size, 1, none⟩) ld).trans cd1
          have ld := Nat.lt_of_lt_of_le ld hk13.size
          rcases te with te | ⟨te, rfl, rfl⟩
          · have te' : (t.e == 0) = false := by simp [te]
            go_wp2_with fail
            go_roundw
            case rel => exact ⟨1, by omega, rfl, hc13⟩
            case measure => simp [intOf]
          · have te' : (t.e == 0) = true := by simp [te]
            go_wp2_with fail
            go_roundw
            case rel => exact ⟨1, by omega, rfl, hc13⟩
            case measure => simp [intOf]
    · as_aux_lemma =>
        obtain ⟨w0, rfl⟩ : ∃ x : World, x = wr := ⟨_, rfl⟩
        have hc0 := hbr
        obtain ⟨s, m, t, x, y, e1, e2, f, o, sg, se, ho⟩ := ord_of hB2.out.1 hB2.out.2
        have HO := Lib.hid ho
        have z0 := (hbr.cell (p := ⟨g, 8, none⟩) lg).trans cg8
        have z1 := (hbr.cell (p := ⟨g, 9, none⟩) lg).trans cg9
        have z2 := (hbr.cell (p := ⟨g, 10, none⟩) lg).trans cg10
        have z3 := (hbr.cell (p := ⟨g, 11, none⟩) lg).trans cg11
        have m4 := ho.m4
        have te := ho.te
        have i1 := ho.in1
        have i2 := ho.in2
        have i3 := ho.in3
        have i4 := ho.in4
        clear ho
        go_wp2_with fail
        refine (add_b _ s1 s2 t1 t2).mono ?_
        rintro e w1 ⟨rfl, hb1⟩
        rw [HO.out.add1]
        have hl1 := heap_last w0 (.cells #[.int .i64 s1, .int .i64 s2, .int .i64 t1, .int .i64 t2] 32)
        have hk1 : Below w0.heap.size w0 w1 := chain ((Below.refl _ _).alloc (Nat.le_refl _) (.cells #[.int .i64 s1, .int .i64 s2, .int .i64 t1, .int .i64 t2] 32)) hb1
        have hc1 := chain hc0 hk1
        have hz1 := hk1.size
        have cp0 : w1.cell? ⟨w0.heap.size, 0, none⟩ = some (.int .i64 s1) := cell_later hl1 hb1
        have cp1 : w1.cell? ⟨w0.heap.size, 1, none⟩ = some (.int .i64 s2) := cell_later hl1 hb1
        have cp2 : w1.cell? ⟨w0.heap.size, 2, none⟩ = some (.int .i64 t1) := cell_later hl1 hb1
        have cp3 : w1.cell? ⟨w0.heap.size, 3, none⟩ = some (.int .i64 t2) := cell_later hl1 hb1
        have lp := World.block_lt_of_cell? _ _ cp0
        clear hl1
        go_wp2_with fail
        refine (add_b _ t1 t2 s1 s2).mono ?_
        rintro e w2 ⟨rfl, hb2⟩
        rw [HO.out.add2]
        have hl2 := heap_last w1 (.cells #[.int .i64 s.lo, .int .i64 s.hi] 23)
        have hk2 : Below w1.heap.size w1 w2 := chain ((Below.refl _ _).alloc (Nat.le_refl _) (.cells #[.int .i64 s.lo, .int .i64 s.hi] 23)) hb2
        have hc2 := chain hc1 hk2
        have hz2 := hk2.size
        have cp0 := (hk2.cell (p := ⟨w0.heap.size, 0, none⟩) lp).trans cp0
        have cp1 := (hk2.cell (p := ⟨w0.heap.size, 1, none⟩) lp).trans cp1
        have cp2 := (hk2.cell (p := ⟨w0.heap.size, 2, none⟩) lp).trans cp2
        have cp3 := (hk2.cell (p := ⟨w0.heap.size, 3, none⟩) lp).trans cp3
        have lp := Nat.lt_of_lt_of_le lp hk2.size
        have cs0 : w2.cell? ⟨w1.heap.size, 0, none⟩ = some (.int .i64 s.lo) := cell_later hl2 hb2
        have cs1 : w2.cell? ⟨w1.heap.size, 1, none⟩ = some (.int .i64 s.hi) := cell_later hl2 hb2
        have ls := World.block_lt_of_cell? _ _ cs0
        clear hl2
        go_wp2_with fail
        refine (mul_b _ s1 s2 t1 t2).mono ?_
        rintro e w3 ⟨rfl, hb3⟩
        rw [HO.out.mul1]
        have hl3 := heap_last w2 (.cells #[.int .i64 s.lo, .int .i64 s.hi] 23)
        have hk3 : Below w2.heap.size w2 w3 := chain ((Below.refl _ _).alloc (Nat.le_refl _) (.cells #[.int .i64 s.lo, .int .i64 s.hi] 23)) hb3
        have hc3 := chain hc2 hk3
        have hz3 := hk3.size
        have cp0 := (hk3.cell (p := ⟨w0.heap.size, 0, none⟩) lp).trans cp0
        have cp1 := (hk3.cell (p := ⟨w0.heap.size, 1, none⟩) lp).trans cp1
        have cp2 := (hk3.cell (p := ⟨w0.heap.size, 2, none⟩) lp).trans cp2
        have cp3 := (hk3.cell (p := ⟨w0.heap.size, 3, none⟩) lp).trans cp3
        have lp := Nat.lt_of_lt_of_le lp hk3.size
        have cs0 := (hk3.cell (p := ⟨w1.heap.size, 0, none⟩) ls).trans cs0
        have cs1 := (hk3.cell (p := ⟨w1.heap.size, 1, none⟩) ls).trans cs1
        have ls := Nat.lt_of_lt_of_le ls hk3.size
        have cu0 : w3.cell? ⟨w2.heap.size, 0, none⟩ = some (.int .i64 s.lo) := cell_later hl3 hb3
        have cu1 : w3.cell? ⟨w2.heap.size, 1, none⟩ = some (.int .i64 s.hi) := cell_later hl3 hb3
        have lu := World.block_lt_of_cell? _ _ cu0
        clear hl3
        go_wp2_with fail
        refine (mul_b _ t1 t2 s1 s2).mono ?_
        rintro e w4 ⟨rfl, hb4⟩
        rw [HO.out.mul2]
        have hl4 := heap_last w3 (.cells #[.int .i64 m.lo, .int .i64 m.hi] 23)
        have hk4 : Below w3.heap.size w3 w4 := chain ((Below.refl _ _).alloc (Nat.le_refl _) (.cells #[.int .i64 m.lo, .int .i64 m.hi] 23)) hb4
        have hc4 := chain hc3 hk4
        have hz4 := hk4.size
        have cp0 := (hk4.cell (p := ⟨w0.heap.size, 0, none⟩) lp).trans cp0
        have cp1 := (hk4.cell (p := ⟨w0.heap.size, 1, none⟩) lp).trans cp1
        have cp2 := (hk4.cell (p := ⟨w0.heap.size, 2, none⟩) lp).trans cp2
        have cp3 := (hk4.cell (p := ⟨w0.heap.size, 3, none⟩) lp).trans cp3
        have lp := Nat.lt_of_lt_of_le lp hk4.size
        have cs0 := (hk4.cell (p := ⟨w1.heap.size, 0, none⟩) ls).trans cs0
        have cs1 := (hk4.cell (p := ⟨w1.heap.size, 1, none⟩) ls).trans cs1
        have ls := Nat.lt_of_lt_of_le ls hk4.size
        have cu0 := (hk4.cell (p := ⟨w2.heap.size, 0, none⟩) lu).trans cu0
        have cu1 := (hk4.cell (p := ⟨w2.heap.size, 1, none⟩) lu).trans cu1
        have lu := Nat.lt_of_lt_of_le lu hk4.size
        have cm0 : w4.cell? ⟨w3.heap.size, 0, none⟩ = some (.int .i64 m.lo) := cell_later hl4 hb4
        have cm1 : w4.cell? ⟨w3.heap.size, 1, none⟩ = some (.int .i64 m.hi) := cell_later hl4 hb4
        have lm := World.block_lt_of_cell? _ _ cm0
        clear hl4
        go_wp2_with fail
        refine (neg_c _ t1 t2).mono ?_
        rintro e w5 ⟨rfl, hb5⟩
        rw [HO.out.neg]
        have hl5 := heap_last w4 (.cells #[.int .i64 m.lo, .int .i64 m.hi] 23)
        have hk5 : Below w4.heap.size w4 w5 := chain ((Below.refl _ _).alloc (Nat.le_refl _) (.cells #[.int .i64 m.lo, .int .i64 m.hi] 23)) hb5
        have hc5 := chain hc4 hk5
        have hz5 := hk5.size
        have cp0 := (hk5.cell (p := ⟨w0.heap.size, 0, none⟩) lp).trans cp0
        have cp1 := (hk5.cell (p := ⟨w0.heap.size, 1, none⟩) lp).trans cp1
        have cp2 := (hk5.cell (p := ⟨w0.heap.size, 2, none⟩) lp).trans cp2
        have cp3 := (hk5.cell (p := ⟨w0.heap.size, 3, none⟩) lp).trans cp3
        have lp := Nat.lt_of_lt_of_le lp hk5.size
        have cs0 := (hk5.cell (p := ⟨w1.heap.size, 0, none⟩) ls).trans cs0
        have cs1 := (hk5.cell (p := ⟨w1.heap.size, 1, none⟩) ls).trans cs1
        have ls := Nat.lt_of_lt_of_le ls hk5.size
        have cu0 := (hk5.cell (p := ⟨w2.heap.size, 0, none⟩) lu).trans cu0
        have cu1 := (hk5.cell (p := ⟨w2.heap.size, 1, none⟩) lu).trans cu1
        have lu := Nat.lt_of_lt_of_le lu hk5.size
        have cm0 := (hk5.cell (p := ⟨w3.heap.size, 0, none⟩) lm).trans cm0
        have cm1 := (hk5.cell (p := ⟨w3.heap.size, 1, none⟩) lm).trans cm1
        have lm := Nat.lt_of_lt_of_le lm hk5.size
        have cn0 : w5.cell? ⟨w4.heap.size, 0, none⟩ = some (.int .i64 m.lo) := cell_later hl5 hb5
        have cn1 : w5.cell? ⟨w4.heap.size, 1, none⟩ = some (.int .i64 m.hi) := cell_later hl5 hb5
        have ln := World.block_lt_of_cell? _ _ cn0
        clear hl5
        go_wp2_with fail
        refine (sub_c _ s1 s2 t1 t2).mono ?_
        rintro e w6 ⟨rfl, hb6⟩
        rw [HO.out.sub1]
        have hl6 := heap_last w5 (.cells #[.int .i64 (-t2), .int .i64 (-t1)] 23)
        have hk6 : Below w5.heap.size w5 w6 := chain ((Below.refl _ _).alloc (Nat.le_refl _) (.cells #[.int .i64 (-t2), .int .i64 (-t1)] 23)) hb6
        have hc6 := chain hc5 hk6
        have hz6 := hk6.size
        have cp0 := (hk6.cell (p := ⟨w0.heap.size, 0, none⟩) lp).trans cp0
        have cp1 := (hk6.cell (p := ⟨w0.heap.size, 1, none⟩) lp).trans cp1
        have cp2 := (hk6.cell (p := ⟨w0.heap.size, 2, none⟩) lp).trans cp2
        have cp3 := (hk6.cell (p := ⟨w0.heap.size, 3, none⟩) lp).trans cp3
        have lp := Nat.lt_of_lt_of_le lp hk6.size
        have cs0 := (hk6.cell (p := ⟨w1.heap.size, 0, none⟩) ls).trans cs0
        have cs1 := (hk6.cell (p := ⟨w1.heap.size, 1, none⟩) ls).trans cs1
        have ls := Nat.lt_of_lt_of_le ls hk6.size
        have cu0 := (hk6.cell (p := ⟨w2.heap.size, 0, none⟩) lu).trans cu0
        have cu1 := (hk6.cell (p := ⟨w2.heap.size, 1, none⟩) lu).trans cu1
        have lu := Nat.lt_of_lt_of_le lu hk6.size
        have cm0 := (hk6.cell (p := ⟨w3.heap.size, 0, none⟩) lm).trans cm0
        have cm1 := (hk6.cell (p := ⟨w3.heap.size, 1, none⟩) lm).trans cm1
        have lm := Nat.lt_of_lt_of_le lm hk6.size
        have cn0 := (hk6.cell (p := ⟨w4.heap.size, 0, none⟩) ln).trans cn0
        have cn1 := (hk6.cell (p := ⟨w4.heap.size, 1, none⟩) ln).trans cn1
        have ln := Nat.lt_of_lt_of_le ln hk6.size
        have ci0 : w6.cell? ⟨w5.heap.size, 0, none⟩ = some (.int .i64 (-t2)) := cell_later hl6 hb6
        have ci1 : w6.cell? ⟨w5.heap.size, 1, none⟩ = some (.int .i64 (-t1)) := cell_later hl6 hb6
        have li := World.block_lt_of_cell? _ _ ci0
        clear hl6
        go_wp2_with fail
        refine (add_b _ s1 s2 (-t2) (-t1)).mono ?_
        rintro e w7 ⟨rfl, hb7⟩
        rw [HO.out.sub2]
        have hl7 := heap_last w6 (.cells #[.int .i64 t.lo, .int .i64 t.hi] 23)
        have hk7 : Below w6.heap.size w6 w7 := chain ((Below.refl _ _).alloc (Nat.le_refl _) (.cells #[.int .i64 t.lo, .int .i64 t.hi] 23)) hb7
        have hc7 := chain hc6 hk7
        have hz7 := hk7.size
        have cp0 := (hk7.cell (p := ⟨w0.heap.size, 0, none⟩) lp).trans cp0
        have cp1 := (hk7.cell (p := ⟨w0.heap.size, 1, none⟩) lp).trans cp1
        have cp2 := (hk7.cell (p := ⟨w0.heap.size, 2, none⟩) lp).trans cp2
        have cp3 := (hk7.cell (p := ⟨w0.heap.size, 3, none⟩) lp).trans cp3
        have lp := Nat.lt_of_lt_of_le lp hk7.size
        have cs0 := (hk7.cell (p := ⟨w1.heap.size, 0, none⟩) ls).trans cs0
        have cs1 := (hk7.cell (p := ⟨w1.heap.size, 1, none⟩) ls).trans cs1
        have ls := Nat.lt_of_lt_of_le ls hk7.size
        have cu0 := (hk7.cell (p := ⟨w2.heap.size, 0, none⟩) lu).trans cu0
        have cu1 := (hk7.cell (p := ⟨w2.heap.size, 1, none⟩) lu).trans cu1
        have lu := Nat.lt_of_lt_of_le lu hk7.size
        have cm0 := (hk7.cell (p := ⟨w3.heap.size, 0, none⟩) lm).trans cm0
        have cm1 := (hk7.cell (p := ⟨w3.heap.size, 1, none⟩) lm).trans cm1
        have lm := Nat.lt_of_lt_of_le lm hk7.size
        have cn0 := (hk7.cell (p := ⟨w4.heap.size, 0, none⟩) ln).trans cn0
        have cn1 := (hk7.cell (p := ⟨w4.heap.size, 1, none⟩) ln).trans cn1
        have ln := Nat.lt_of_lt_of_le ln hk7.size
        have ci0 := (hk7.cell (p := ⟨w5.heap.size, 0, none⟩) li).trans ci0
        have ci1 := (hk7.cell (p := ⟨w5.heap.size, 1, none⟩) li).trans ci1
        have li := Nat.lt_of_lt_of_le li hk7.size
        have cd0 : w7.cell? ⟨w6.heap.size, 0, none⟩ = some (.int .i64 t.lo) := cell_later hl7 hb7
        have cd1 : w7.cell? ⟨w6.heap.size, 1, none⟩ = some (.int .i64 t.hi) := cell_later hl7 hb7
        have ld := World.block_lt_of_cell? _ _ cd0
        clear hl7
        go_wp2_with fail
        refine (hull_b _ s1 s2 t1 t2).mono ?_
        rintro e w8 ⟨rfl, hb8⟩
        rw [HO.out.hull]
        have hl8 := heap_last w7 (.cells #[.int .i64 t.lo, .int .i64 t.hi] 23)
        have hk8 : Below w7.heap.size w7 w8 := chain ((Below.refl _ _).alloc (Nat.le_refl _) (.cells #[.int .i64 t.lo, .int .i64 t.hi] 23)) hb8
        have hc8 := chain hc7 hk8
        have hz8 := hk8.size
        have cp0 := (hk8.cell (p := ⟨w0.heap.size, 0, none⟩) lp).trans cp0
        have cp1 := (hk8.cell (p := ⟨w0.heap.size, 1, none⟩) lp).trans cp1
        have cp2 := (hk8.cell (p := ⟨w0.heap.size, 2, none⟩) lp).trans cp2
        have cp3 := (hk8.cell (p := ⟨w0.heap.size, 3, none⟩) lp).trans cp3
        have lp := Nat.lt_of_lt_of_le lp hk8.size
        clear cs0 cs1 ls
        clear cu0 cu1 lu
        clear cm0 cm1 lm
        clear cn0 cn1 ln
        clear ci0 ci1 li
        have cd0 := (hk8.cell (p := ⟨w6.heap.size, 0, none⟩) ld).trans cd0
        have cd1 := (hk8.cell (p := ⟨w6.heap.size, 1, none⟩) ld).trans cd1
        have ld := Nat.lt_of_lt_of_le ld hk8.size
        have cc0 : w8.cell? ⟨w7.heap.size, 0, none⟩ = some (.int .i64 t.lo) := cell_later hl8 hb8
        have cc1 : w8.cell? ⟨w7.heap.size, 1, none⟩ = some (.int .i64 t.hi) := cell_later hl8 hb8
        have lc := World.block_lt_of_cell? _ _ cc0
        clear hl8
        go_wp2_with fail
        refine (meet_b _ s1 s2 t1 t2).mono ?_
        rintro e w9 ⟨rfl, hb9⟩
        rw [HO.out.meet]
        have hl9 := heap_last w8 (.cells #[.int .i64 x, .int .i64 y] 23)
        have hk9 : Below w8.heap.size w8 w9 := chain ((Below.refl _ _).alloc (Nat.le_refl _) (.cells #[.int .i64 x, .int .i64 y] 23)) hb9
        have hc9 := chain hc8 hk9
        have hz9 := hk9.size
        have cp0 := (hk9.cell (p := ⟨w0.heap.size, 0, none⟩) lp).trans cp0
        have cp1 := (hk9.cell (p := ⟨w0.heap.size, 1, none⟩) lp).trans cp1
        have cp2 := (hk9.cell (p := ⟨w0.heap.size, 2, none⟩) lp).trans cp2
        have cp3 := (hk9.cell (p := ⟨w0.heap.size, 3, none⟩) lp).trans cp3
        have lp := Nat.lt_of_lt_of_le lp hk9.size
        have cd0 := (hk9.cell (p := ⟨w6.heap.size, 0, none⟩) ld).trans cd0
        have cd1 := (hk9.cell (p := ⟨w6.heap.size, 1, none⟩) ld).trans cd1
        have ld := Nat.lt_of_lt_of_le ld hk9.size
        have cc0 := (hk9.cell (p := ⟨w7.heap.size, 0, none⟩) lc).trans cc0
        have cc1 := (hk9.cell (p := ⟨w7.heap.size, 1, none⟩) lc).trans cc1
        have lc := Nat.lt_of_lt_of_le lc hk9.size
        have ch0 : w9.cell? ⟨w8.heap.size, 0, none⟩ = some (.int .i64 x) := cell_later hl9 hb9
        have ch1 : w9.cell? ⟨w8.heap.size, 1, none⟩ = some (.int .i64 y) := cell_later hl9 hb9
        have lh := World.block_lt_of_cell? _ _ ch0
        clear hl9
        rcases m4 with ⟨rfl, o1, o2, j1, j2, j3, j4⟩ | ⟨rfl, rfl | rfl⟩
        · have o1' : (o == 1) = false := by simp [o1]
          have o2' : (o == -1) = false := by simp [o2]
          go_wp2_with fail
          refine (inside_ok _ _ _ _ _ i1 i2).mono ?_
          rintro e w10 ⟨rfl, hb10⟩
          have hl10 := heap_last w9 (.cells #[.int .i64 e1, .int .i64 e2] 23)
          have hk10 : Below w9.heap.size w9 w10 := chain ((Below.refl _ _).alloc (Nat.le_refl _) (.cells #[.int .i64 e1, .int .i64 e2] 23)) hb10
          have hc10 := chain hc9 hk10
          have hz10 := hk10.size
          have cp0 := (hk10.cell (p := ⟨w0.heap.size, 0, none⟩) lp).trans cp0
          have cp1 := (hk10.cell (p := ⟨w0.heap.size, 1, none⟩) lp).trans cp1
          have cp2 := (hk10.cell (p := ⟨w0.heap.size, 2, none⟩) lp).trans cp2
          have cp3 := (hk10.cell (p := ⟨w0.heap.size, 3, none⟩) lp).trans cp3
          have lp := Nat.lt_of_lt_of_le lp hk10.size
          have cd0 := (hk10.cell (p := ⟨w6.heap.size, 0, none⟩) ld).trans cd0
          have cd1 := (hk10.cell (p := ⟨w6.heap.size, 1, none⟩) ld).trans cd1
          have ld := Nat.lt_of_lt_of_le ld hk10.size
          have cc0 := (hk10.cell (p := ⟨w7.heap.size, 0, none⟩) lc).trans cc0
          have cc1 := (hk10.cell (p := ⟨w7.heap.size, 1, none⟩) lc).trans cc1
          have lc := Nat.lt_of_lt_of_le lc hk10.size
          have ch0 := (hk10.cell (p := ⟨w8.heap.size, 0, none⟩) lh).trans ch0
          have ch1 := (hk10.cell (p := ⟨w8.heap.size, 1, none⟩) lh).trans ch1
          have lh := Nat.lt_of_lt_of_le lh hk10.size
          have ce0 : w10.cell? ⟨w9.heap.size, 0, none⟩ = some (.int .i64 e1) := cell_later hl10 hb10
          have ce1 : w10.cell? ⟨w9.heap.size, 1, none⟩ = some (.int .i64 e2) := cell_later hl10 hb10
          have le := World.block_lt_of_cell? _ _ ce0
          clear hl10
          go_wp2_with fail
          refine (inside_ok _ _ _ _ _ i3 i4).mono ?_
          rintro e w11 ⟨rfl, hb11⟩
          have hk11 := hb11
          have hc11 := chain hc10 hk11
          have hz11 := hk11.size
          have cp0 := (hk11.cell (p := ⟨w0.heap.size, 0, none⟩) lp).trans cp0
          have cp1 := (hk11.cell (p := ⟨w0.heap.size, 1, none⟩) lp).trans cp1
          have cp2 := (hk11.cell (p := ⟨w0.heap.size, 2, none⟩) lp).trans cp2
          have cp3 := (hk11.cell (p := ⟨w0.heap.size, 3, none⟩) lp).trans cp3
          have lp := Nat.lt_of_lt_of_le lp hk11.size
          have cd0 := (hk11.cell (p := ⟨w6.heap.size, 0, none⟩) ld).trans cd0
          have cd1 := (hk11.cell (p := ⟨w6.heap.size, 1, none⟩) ld).trans cd1
          have ld := Nat.lt_of_lt_of_le ld hk11.size
          have cc0 := (hk11.cell (p := ⟨w7.heap.size, 0, none⟩) lc).trans cc0
          have cc1 := (hk11.cell (p := ⟨w7.heap.size, 1, none⟩) lc).trans cc1
          have lc := Nat.lt_of_lt_of_le lc hk11.size
          have ch0 := (hk11.cell (p := ⟨w8.heap.size, 0, none⟩) lh).trans ch0
          have ch1 := (hk11.cell (p := ⟨w8.heap.size, 1, none⟩) lh).trans ch1
          have lh := Nat.lt_of_lt_of_le lh hk11.size
          have ce0 := (hk11.cell (p := ⟨w9.heap.size, 0, none⟩) le).trans ce0
          have ce1 := (hk11.cell (p := ⟨w9.heap.size, 1, none⟩) le).trans ce1
          have le := Nat.lt_of_lt_of_le le hk11.size
          go_wp2_with fail
          refine (inside_ok _ _ _ _ _ j1 j2).mono ?_
          rintro e w12 ⟨rfl, hb12⟩
          have hk12 := hb12
          have hc12 := chain hc11 hk12
          have hz12 := hk12.size
          have cp0 := (hk12.cell (p := ⟨w0.heap.size, 0, none⟩) lp).trans cp0
          have cp1 := (hk12.cell (p := ⟨w0.heap.size, 1, none⟩) lp).trans cp1
          have cp2 := (hk12.cell (p := ⟨w0.heap.size, 2, none⟩) lp).trans cp2
          have cp3 := (hk12.cell (p := ⟨w0.heap.size, 3, none⟩) lp).trans cp3
          have lp := Nat.lt_of_lt_of_le lp hk12.size
          have cd0 := (hk12.cell (p := ⟨w6.heap.size, 0, none⟩) ld).trans cd0
          have cd1 := (hk12.cell (p := ⟨w6.heap.size, 1, none⟩) ld).trans cd1
          have ld := Nat.lt_of_lt_of_le ld hk12.size
          have cc0 := (hk12.cell (p := ⟨w7.heap.size, 0, none⟩) lc).trans cc0
          have cc1 := (hk12.cell (p := ⟨w7.heap.size, 1, none⟩) lc).trans cc1
          have lc := Nat.lt_of_lt_of_le lc hk12.size
          have ch0 := (hk12.cell (p := ⟨w8.heap.size, 0, none⟩) lh).trans ch0
          have ch1 := (hk12.cell (p := ⟨w8.heap.size, 1, none⟩) lh).trans ch1
          have lh := Nat.lt_of_lt_of_le lh hk12.size
          have ce0 := (hk12.cell (p := ⟨w9.heap.size, 0, none⟩) le).trans ce0
          have ce1 := (hk12.cell (p := ⟨w9.heap.size, 1, none⟩) le).trans ce1
          have le := Nat.lt_of_lt_of_le le hk12.size
          go_wp2_with fail
          refine (inside_ok _ _ _ _ _ j3 j4).mono ?_
          rintro e w13 ⟨rfl, hb13⟩
          have hk13 := hb13
          have hc13 := chain hc12 hk13
          have hz13 := hk13.size
          have cp0 := (hk13.cell (p := ⟨w0.heap.size, 0, none⟩) lp).trans cp0
          have cp1 := (hk13.cell (p := ⟨w0.heap.size, 1, none⟩) lp).trans cp1
          have cp2 := (hk13.cell (p := ⟨w0.heap.size, 2, none⟩) lp).trans cp2
          have cp3 := (hk13.cell (p := ⟨w0.heap.size, 3, none⟩) lp).trans cp3
          have lp := Nat.lt_of_lt_of_le lp hk13.size
          have cd0 := (hk13.cell (p := ⟨w6.heap.size, 0, none⟩) ld).trans cd0
          have cd1 := (hk13.cell (p := ⟨w6.heap.size, 1, none⟩) ld).trans cd1
          have ld := Nat.lt_of_lt_of_le ld hk13.size
          have cc0 := (hk13.cell (p := ⟨w7.heap.size, 0, none⟩) lc).trans cc0
          have cc1 := (hk13.cell (p := ⟨w7.heap.size, 1, none⟩) lc).trans cc1
          have lc := Nat.lt_of_lt_of_le lc hk13.size
          have ch0 := (hk13.cell (p := ⟨w8.heap.size, 0, none⟩) lh).trans ch0
          have ch1 := (hk13.cell (p := ⟨w8.heap.size, 1, none⟩) lh).trans ch1
          have lh := Nat.lt_of_lt_of_le lh hk13.size
          have ce0 := (hk13.cell (p := ⟨w9.heap.size, 0, none⟩) le).trans ce0
          have ce1 := (hk13.cell (p := ⟨w9.heap.size, 1, none⟩) le).trans ce1
          have le := Nat.lt_of_lt_of_le le hk13.size
          go_wp2_with fail
          refine (cmp_b _ s1 s2 t1 t2).mono ?_
          rintro e w14 ⟨rfl, hb14⟩
          rw [HO.out.cmp]
          rw [HO.out.cmpe]
          have hk14 := hb14
          have hc14 := chain hc13 hk14
          have hz14 := hk14.size
          clear cp0 cp1 cp2 cp3 lp
          have cd0 := (hk14.cell (p := ⟨w6.heap.size, 0, none⟩) ld).trans cd0
          have cd1 := (hk14.cell (p := ⟨w6.heap.size, 1, none⟩) ld).trans cd1
          have ld := Nat.lt_of_lt_of_le ld hk14.size
          clear cc0 cc1 lc
          clear ch0 ch1 lh
          clear ce0 ce1 le
          go_wp2_with fail
          refine (sign_b _ t.lo t.hi).mono ?_
          rintro e w15 ⟨rfl, hb15⟩
          rw [HO.out.sgn]
          rw [HO.out.sgne]
          have hk15 := hb15
          have hc15 := chain hc14 hk15
          have hz15 := hk15.size
          have cd0 := (hk15.cell (p := ⟨w6.heap.size, 0, none⟩) ld).trans cd0
          have cd1 := (hk15.cell (p := ⟨w6.heap.size, 1, none⟩) ld).trans cd1
          have ld := Nat.lt_of_lt_of_le ld hk15.size
          rcases te with te | ⟨te, rfl, rfl⟩
          · have te' : (t.e == 0) = false := by simp [te]
            go_wp2_with fail
            go_roundw
            case rel => exact ⟨2, by omega, rfl, hc15⟩
            case measure => simp [intOf]
          · have te' : (t.e == 0) = true := by simp [te]
            go_wp2_with fail
            go_roundw
            case rel => exact ⟨2, by omega, rfl, hc15⟩
            case measure => simp [intOf]
        · go_wp2_with fail
          refine (inside_ok _ _ _ _ _ i1 i2).mono ?_
          rintro e w10 ⟨rfl, hb10⟩
          have hl10 := heap_last w9 (.cells #[.int .i64 e1, .int .i64 e2] 23)
          have hk10 : Below w9.heap.size w9 w10 := chain ((Below.refl _ _).alloc (Nat.le_refl _) (.cells #[.int .i64 e1, .int .i64 e2] 23)) hb10
          have hc10 := chain hc9 hk10
          have hz10 := hk10.size
          have cp0 := (hk10.cell (p := ⟨w0.heap.size, 0, none⟩) lp).trans cp0
          have cp1 := (hk10.cell (p := ⟨w0.heap.size, 1, none⟩) lp).trans cp1
          have cp2 := (hk10.cell (p := ⟨w0.heap.size, 2, none⟩) lp).trans cp2
          have cp3 := (hk10.cell (p := ⟨w0.heap.size, 3, none⟩) lp).trans cp3
          have lp := Nat.lt_of_lt_of_le lp hk10.size
          have cd0 := (hk10.cell (p := ⟨w6.heap.size, 0, none⟩) ld).trans cd0
          have cd1 := (hk10.cell (p := ⟨w6.heap.size, 1, none⟩) ld).trans cd1
          have ld := Nat.lt_of_lt_of_le ld hk10.size
          have cc0 := (hk10.cell (p := ⟨w7.heap.size, 0, none⟩) lc).trans cc0
          have cc1 := (hk10.cell (p := ⟨w7.heap.size, 1, none⟩) lc).trans cc1
          have lc := Nat.lt_of_lt_of_le lc hk10.size
          have ch0 := (hk10.cell (p := ⟨w8.heap.size, 0, none⟩) lh).trans ch0
          have ch1 := (hk10.cell (p := ⟨w8.heap.size, 1, none⟩) lh).trans ch1
          have lh := Nat.lt_of_lt_of_le lh hk10.size
          have ce0 : w10.cell? ⟨w9.heap.size, 0, none⟩ = some (.int .i64 e1) := cell_later hl10 hb10
          have ce1 : w10.cell? ⟨w9.heap.size, 1, none⟩ = some (.int .i64 e2) := cell_later hl10 hb10
          have le := World.block_lt_of_cell? _ _ ce0
          clear hl10
          go_wp2_with fail
          refine (inside_ok _ _ _ _ _ i3 i4).mono ?_
          rintro e w11 ⟨rfl, hb11⟩
          have hk11 := hb11
          have hc11 := chain hc10 hk11
          have hz11 := hk11.size
          have cp0 := (hk11.cell (p := ⟨w0.heap.size, 0, none⟩) lp).trans cp0
          have cp1 := (hk11.cell (p := ⟨w0.heap.size, 1, none⟩) lp).trans cp1
          have cp2 := (hk11.cell (p := ⟨w0.heap.size, 2, none⟩) lp).trans cp2
          have cp3 := (hk11.cell (p := ⟨w0.heap.size, 3, none⟩) lp).trans cp3
          have lp := Nat.lt_of_lt_of_le lp hk11.size
          have cd0 := (hk11.cell (p := ⟨w6.heap.size, 0, none⟩) ld).trans cd0
          have cd1 := (hk11.cell (p := ⟨w6.heap.size, 1, none⟩) ld).trans cd1
          have ld := Nat.lt_of_lt_of_le ld hk11.size
          have cc0 := (hk11.cell (p := ⟨w7.heap.size, 0, none⟩) lc).trans cc0
          have cc1 := (hk11.cell (p := ⟨w7.heap.size, 1, none⟩) lc).trans cc1
          have lc := Nat.lt_of_lt_of_le lc hk11.size
          have ch0 := (hk11.cell (p := ⟨w8.heap.size, 0, none⟩) lh).trans ch0
          have ch1 := (hk11.cell (p := ⟨w8.heap.size, 1, none⟩) lh).trans ch1
          have lh := Nat.lt_of_lt_of_le lh hk11.size
          have ce0 := (hk11.cell (p := ⟨w9.heap.size, 0, none⟩) le).trans ce0
          have ce1 := (hk11.cell (p := ⟨w9.heap.size, 1, none⟩) le).trans ce1
          have le := Nat.lt_of_lt_of_le le hk11.size
          go_wp2_with fail
          refine (cmp_b _ s1 s2 t1 t2).mono ?_
          rintro e w12 ⟨rfl, hb12⟩
          rw [HO.out.cmp]
          rw [HO.out.cmpe]
          have hk12 := hb12
          have hc12 := chain hc11 hk12
          have hz12 := hk12.size
          clear cp0 cp1 cp2 cp3 lp
          have cd0 := (hk12.cell (p := ⟨w6.heap.size, 0, none⟩) ld).trans cd0
          have cd1 := (hk12.cell (p := ⟨w6.heap.size, 1, none⟩) ld).trans cd1
          have ld := Nat.lt_of_lt_of_le ld hk12.size
          clear cc0 cc1 lc
          clear ch0 ch1 lh
          clear ce0 ce1 le
          go_wp2_with fail
          refine (sign_b _ t.lo t.hi).mono ?_
          rintro e w13 ⟨rfl, hb13⟩
          rw [HO.out.sgn]
          rw [HO.out.sgne]
          have hk13 := hb13
          have hc13 := chain hc12 hk13
          have hz13 := hk13.size
          have cd0 := (hk13.cell (p := ⟨w6.heap.size, 0, none⟩) ld).trans cd0
          have cd1 := (hk13.cell (p := ⟨w6.heap.size, 1, none⟩) ld).trans cd1
          have ld := Nat.lt_of_lt_of_le ld hk13.size
          rcases te with te | ⟨te, rfl, rfl⟩
          · have te' : (t.e == 0) = false := by simp [te]
            go_wp2_with fail
            go_roundw
            case rel => exact ⟨2, by omega, rfl, hc13⟩
            case measure => simp [intOf]
          · have te' : (t.e == 0) = true := by simp [te]
            go_wp2_with fail
            go_roundw
            case rel => exact ⟨2, by omega, rfl, hc13⟩
            case measure => simp [intOf]
        · go_wp2_with fail
          refine (inside_ok _ _ _ _ _ i1 i2).mono ?_
          rintro e w10 ⟨rfl, hb10⟩
          have hl10 := heap_last w9 (.cells #[.int .i64 e1, .int .i64 e2] 23)
          have hk10 : Below w9.heap.size w9 w10 := chain ((Below.refl _ _).alloc (Nat.le_refl _) (.cells #[.int .i64 e1, .int .i64 e2] 23)) hb10
          have hc10 := chain hc9 hk10
          have hz10 := hk10.size
          have cp0 := (hk10.cell (p := ⟨w0.heap.size, 0, none⟩) lp).trans cp0
          have cp1 := (hk10.cell (p := ⟨w0.heap.size, 1, none⟩) lp).trans cp1
          have cp2 := (hk10.cell (p := ⟨w0.heap.size, 2, none⟩) lp).trans cp2
          have cp3 := (hk10.cell (p := ⟨w0.heap.size, 3, none⟩) lp).trans cp3
          have lp := Nat.lt_of_lt_of_le lp hk10.size
          have cd0 := (hk10.cell (p := ⟨w6.heap.size, 0, none⟩) ld).trans cd0
          have cd1 := (hk10.cell (p := ⟨w6.heap.size, 1, none⟩) ld).trans cd1
          have ld := Nat.lt_of_lt_of_le ld hk10.size
          have cc0 := (hk10.cell (p := ⟨w7.heap.size, 0, none⟩) lc).trans cc0
          have cc1 := (hk10.cell (p := ⟨w7.heap.size, 1, none⟩) lc).trans cc1
          have lc := Nat.lt_of_lt_of_le lc hk10.size
          have ch0 := (hk10.cell (p := ⟨w8.heap.size, 0, none⟩) lh).trans ch0
          have ch1 := (hk10.cell (p := ⟨w8.heap.size, 1, none⟩) lh).trans ch1
          have lh := Nat.lt_of_lt_of_le lh hk10.size
          have ce0 : w10.cell? ⟨w9.heap.size, 0, none⟩ = some (.int .i64 e1) := cell_later hl10 hb10
          have ce1 : w10.cell? ⟨w9.heap.size, 1, none⟩ = some (.int .i64 e2) := cell_later hl10 hb10
          have le := World.block_lt_of_cell? _ _ ce0
          clear hl10
          go_wp2_with fail
          refine (inside_ok _ _ _ _ _ i3 i4).mono ?_
          rintro e w11 ⟨rfl, hb11⟩
          have hk11 := hb11
          have hc11 := chain hc10 hk11
          have hz11 := hk11.size
          have cp0 := (hk11.cell (p := ⟨w0.heap.size, 0, none⟩) lp).trans cp0
          have cp1 := (hk11.cell (p := ⟨w0.heap.size, 1, none⟩) lp).trans cp1
          have cp2 := (hk11.cell (p := ⟨w0.heap.size, 2, none⟩) lp).trans cp2
          have cp3 := (hk11.cell (p := ⟨w0.heap.size, 3, none⟩) lp).trans cp3
          have lp := Nat.lt_of_lt_of_le lp hk11.size
          have cd0 := (hk11.cell (p := ⟨w6.heap.size, 0, none⟩) ld).trans cd0
          have cd1 := (hk11.cell (p := ⟨w6.heap.size, 1, none⟩) ld).trans cd1
          have ld := Nat.lt_of_lt_of_le ld hk11.size
          have cc0 := (hk11.cell (p := ⟨w7.heap.size, 0, none⟩) lc).trans cc0
          have cc1 := (hk11.cell (p := ⟨w7.heap.size, 1, none⟩) lc).trans cc1
          have lc := Nat.lt_of_lt_of_le lc hk11.size
          have ch0 := (hk11.cell (p := ⟨w8.heap.size, 0, none⟩) lh).trans ch0
          have ch1 := (hk11.cell (p := ⟨w8.heap.size, 1, none⟩) lh).trans ch1
          have lh := Nat.lt_of_lt_of_le lh hk11.size
          have ce0 := (hk11.cell (p := ⟨w9.heap.size, 0, none⟩) le).trans ce0
          have ce1 := (hk11.cell (p := ⟨w9.heap.size, 1, none⟩) le).trans ce1
          have le := Nat.lt_of_lt_of_le le hk11.size
          go_wp2_with fail
          refine (cmp_b _ s1 s2 t1 t2).mono ?_
          rintro e w12 ⟨rfl, hb12⟩
          rw [HO.out.cmp]
          rw [HO.out.cmpe]
          have hk12 := hb12
          have hc12 := chain hc11 hk12
          have hz12 := hk12.size
          clear cp0 cp1 cp2 cp3 lp
          have cd0 := (hk12.cell (p := ⟨w6.heap.size, 0, none⟩) ld).trans cd0
          have cd1 := (hk12.cell (p := ⟨w6.heap.size, 1, none⟩) ld).trans cd1
          have ld := Nat.lt_of_lt_of_le ld hk12.size
          clear cc0 cc1 lc
          clear ch0 ch1 lh
          clear ce0 ce1 le
          go_wp2_with fail
          refine (sign_b _ t.lo t.hi).mono ?_
          rintro e w13 ⟨rfl, hb13⟩
          rw [HO.out.sgn]
          rw [HO.out.sgne]
          have hk13 := hb13
          have hc13 := chain hc12 hk13
          have hz13 := hk13.size
          have cd0 := (hk13.cell (p := ⟨w6.heap.size, 0, none⟩) ld).trans cd0
          have cd1 := (hk13.cell (p := ⟨w6.heap.size, 1, none⟩) ld).trans cd1
          have ld := Nat.lt_of_lt_of_le ld hk13.size
          rcases te with te | ⟨te, rfl, rfl⟩
          · have te' : (t.e == 0) = false := by simp [te]
            go_wp2_with fail
            go_roundw
            case rel => exact ⟨2, by omega, rfl, hc13⟩
            case measure => simp [intOf]
          · have te' : (t.e == 0) = true := by simp [te]
            go_wp2_with fail
            go_roundw
            case rel => exact ⟨2, by omega, rfl, hc13⟩
            case measure => simp [intOf]
    · as_aux_lemma =>
        obtain ⟨w0, rfl⟩ : ∃ x : World, x = wr := ⟨_, rfl⟩
        have hc0 := hbr
        obtain ⟨s, m, t, x, y, e1, e2, f, o, sg, se, ho⟩ := ord_of hB3.out.1 hB3.out.2
        have HO := Lib.hid ho
        have z0 := (hbr.cell (p := ⟨g, 12, none⟩) lg).trans cg12
        have z1 := (hbr.cell (p := ⟨g, 13, none⟩) lg).trans cg13
        have z2 := (hbr.cell (p := ⟨g, 14, none⟩) lg).trans cg14
        have z3 := (hbr.cell (p := ⟨g, 15, none⟩) lg).trans cg15
        have m4 := ho.m4
        have te := ho.te
        have i1 := ho.in1
        have i2 := ho.in2
        have i3 := ho.in3
        have i4 := ho.in4
        clear ho
        go_wp2_with fail
        refine (add_b _ ua ub v1 v2).mono ?_
        rintro e w1 ⟨rfl, hb1⟩
        rw [HO.out.add1]
        have hl1 := heap_last w0 (.cells #[.int .i64 ua, .int .i64 ub, .int .i64 v1, .int .i64 v2] 32)
        have hk1 : Below w0.heap.size w0 w1 := chain ((Below.refl _ _).alloc (Nat.le_refl _) (.cells #[.int .i64 ua, .int .i64 ub, .int .i64 v1, .int .i64 v2] 32)) hb1
        have hc1 := chain hc0 hk1
        have hz1 := hk1.size
        have cp0 : w1.cell? ⟨w0.heap.size, 0, none⟩ = some (.int .i64 ua) := cell_later hl1 hb1
        have cp1 : w1.cell? ⟨w0.heap.size, 1, none⟩ = some (.int .i64 ub) := cell_later hl1 hb1
        have cp2 : w1.cell? ⟨w0.heap.size, 2, none⟩ = some (.int .i64 v1) := cell_later hl1 hb1
        have cp3 : w1.cell? ⟨w0.heap.size, 3, none⟩ = some (.int .i64 v2) := cell_later hl1 hb1
        have lp := World.block_lt_of_cell? _ _ cp0
        clear hl1
        go_wp2_with fail
        refine (add_b _ v1 v2 ua ub).mono ?_
        rintro e w2 ⟨rfl, hb2⟩
        rw [HO.out.add2]
        have hl2 := heap_last w1 (.cells #[.int .i64 s.lo, .int .i64 s.hi] 23)
        have hk2 : Below w1.heap.size w1 w2 := chain ((Below.refl _ _).alloc (Nat.le_refl _) (.cells #[.int .i64 s.lo, .int .i64 s.hi] 23)) hb2
        have hc2 := chain hc1 hk2
        have hz2 := hk2.size
        have cp0 := (hk2.cell (p := ⟨w0.heap.size, 0, none⟩) lp).trans cp0
        have cp1 := (hk2.cell (p := ⟨w0.heap.size, 1, none⟩) lp).trans cp1
        have cp2 := (hk2.cell (p := ⟨w0.heap.size, 2, none⟩) lp).trans cp2
        have cp3 := (hk2.cell (p := ⟨w0.heap.size, 3, none⟩) lp).trans cp3
        have lp := Nat.lt_of_lt_of_le lp hk2.size
        have cs0 : w2.cell? ⟨w1.heap.size, 0, none⟩ = some (.int .i64 s.lo) := cell_later hl2 hb2
        have cs1 : w2.cell? ⟨w1.heap.size, 1, none⟩ = some (.int .i64 s.hi) := cell_later hl2 hb2
        have ls := World.block_lt_of_cell? _ _ cs0
        clear hl2
        go_wp2_with fail
        refine (mul_b _ ua ub v1 v2).mono ?_
        rintro e w3 ⟨rfl, hb3⟩
        rw [HO.out.mul1]
        have hl3 := heap_last w2 (.cells #[.int .i64 s.lo, .int .i64 s.hi] 23)
        have hk3 : Below w2.heap.size w2 w3 := chain ((Below.refl _ _).alloc (Nat.le_refl _) (.cells #[.int .i64 s.lo, .int .i64 s.hi] 23)) hb3
        have hc3 := chain hc2 hk3
        have hz3 := hk3.size
        have cp0 := (hk3.cell (p := ⟨w0.heap.size, 0, none⟩) lp).trans cp0
        have cp1 := (hk3.cell (p := ⟨w0.heap.size, 1, none⟩) lp).trans cp1
        have cp2 := (hk3.cell (p := ⟨w0.heap.size, 2, none⟩) lp).trans cp2
        have cp3 := (hk3.cell (p := ⟨w0.heap.size, 3, none⟩) lp).trans cp3
        have lp := Nat.lt_of_lt_of_le lp hk3.size
        have cs0 := (hk3.cell (p := ⟨w1.heap.size, 0, none⟩) ls).trans cs0
        have cs1 := (hk3.cell (p := ⟨w1.heap.size, 1, none⟩) ls).trans cs1
        have ls := Nat.lt_of_lt_of_le ls hk3.size
        have cu0 : w3.cell? ⟨w2.heap.size, 0, none⟩ = some (.int .i64 s.lo) := cell_later hl3 hb3
        have cu1 : w3.cell? ⟨w2.heap.size, 1, none⟩ = some (.int .i64 s.hi) := cell_later hl3 hb3
        have lu := World.block_lt_of_cell? _ _ cu0
        clear hl3
        go_wp2_with fail
        refine (mul_b _ v1 v2 ua ub).mono ?_
        rintro e w4 ⟨rfl, hb4⟩
        rw [HO.out.mul2]
        have hl4 := heap_last w3 (.cells #[.int .i64 m.lo, .int .i64 m.hi] 23)
        have hk4 : Below w3.heap.size w3 w4 := chain ((Below.refl _ _).alloc (Nat.le_refl _) (.cells #[.int .i64 m.lo, .int .i64 m.hi] 23)) hb4
        have hc4 := chain hc3 hk4
        have hz4 := hk4.size
        have cp0 := (hk4.cell (p := ⟨w0.heap.size, 0, none⟩) lp).trans cp0
        have cp1 := (hk4.cell (p := ⟨w0.heap.size, 1, none⟩) lp).trans cp1
        have cp2 := (hk4.cell (p := ⟨w0.heap.size, 2, none⟩) lp).trans cp2
        have cp3 := (hk4.cell (p := ⟨w0.heap.size, 3, none⟩) lp).trans cp3
        have lp := Nat.lt_of_lt_of_le lp hk4.size
        have cs0 := (hk4.cell (p := ⟨w1.heap.size, 0, none⟩) ls).trans cs0
        have cs1 := (hk4.cell (p := ⟨w1.heap.size, 1, none⟩) ls).trans cs1
        have ls := Nat.lt_of_lt_of_le ls hk4.size
        have cu0 := (hk4.cell (p := ⟨w2.heap.size, 0, none⟩) lu).trans cu0
        have cu1 := (hk4.cell (p := ⟨w2.heap.size, 1, none⟩) lu).trans cu1
        have lu := Nat.lt_of_lt_of_le lu hk4.size
        have cm0 : w4.cell? ⟨w3.heap.size, 0, none⟩ = some (.int .i64 m.lo) := cell_later hl4 hb4
        have cm1 : w4.cell? ⟨w3.heap.size, 1, none⟩ = some (.int .i64 m.hi) := cell_later hl4 hb4
        have lm := World.block_lt_of_cell? _ _ cm0
        clear hl4
        go_wp2_with fail
        refine (neg_c _ v1 v2).mono ?_
        rintro e w5 ⟨rfl, hb5⟩
        rw [HO.out.neg]
        have hl5 := heap_last w4 (.cells #[.int .i64 m.lo, .int .i64 m.hi] 23)
        have hk5 : Below w4.heap.size w4 w5 := chain ((Below.refl _ _).alloc (Nat.le_refl _) (.cells #[.int .i64 m.lo, .int .i64 m.hi] 23)) hb5
        have hc5 := chain hc4 hk5
        have hz5 := hk5.size
        have cp0 := (hk5.cell (p := ⟨w0.heap.size, 0, none⟩) lp).trans cp0
        have cp1 := (hk5.cell (p := ⟨w0.heap.size, 1, none⟩) lp).trans cp1
        have cp2 := (hk5.cell (p := ⟨w0.heap.size, 2, none⟩) lp).trans cp2
        have cp3 := (hk5.cell (p := ⟨w0.heap.size, 3, none⟩) lp).trans cp3
        have lp := Nat.lt_of_lt_of_le lp hk5.size
        have cs0 := (hk5.cell (p := ⟨w1.heap.size, 0, none⟩) ls).trans cs0
        have cs1 := (hk5.cell (p := ⟨w1.heap.size, 1, none⟩) ls).trans cs1
        have ls := Nat.lt_of_lt_of_le ls hk5.size
        have cu0 := (hk5.cell (p := ⟨w2.heap.size, 0, none⟩) lu).trans cu0
        have cu1 := (hk5.cell (p := ⟨w2.heap.size, 1, none⟩) lu).trans cu1
        have lu := Nat.lt_of_lt_of_le lu hk5.size
        have cm0 := (hk5.cell (p := ⟨w3.heap.size, 0, none⟩) lm).trans cm0
        have cm1 := (hk5.cell (p := ⟨w3.heap.size, 1, none⟩) lm).trans cm1
        have lm := Nat.lt_of_lt_of_le lm hk5.size
        have cn0 : w5.cell? ⟨w4.heap.size, 0, none⟩ = some (.int .i64 m.lo) := cell_later hl5 hb5
        have cn1 : w5.cell? ⟨w4.heap.size, 1, none⟩ = some (.int .i64 m.hi) := cell_later hl5 hb5
        have ln := World.block_lt_of_cell? _ _ cn0
        clear hl5
        go_wp2_with fail
        refine (sub_c _ ua ub v1 v2).mono ?_
        rintro e w6 ⟨rfl, hb6⟩
        rw [HO.out.sub1]
        have hl6 := heap_last w5 (.cells #[.int .i64 (-v2), .int .i64 (-v1)] 23)
        have hk6 : Below w5.heap.size w5 w6 := chain ((Below.refl _ _).alloc (Nat.le_refl _) (.cells #[.int .i64 (-v2), .int .i64 (-v1)] 23)) hb6
        have hc6 := chain hc5 hk6
        have hz6 := hk6.size
        have cp0 := (hk6.cell (p := ⟨w0.heap.size, 0, none⟩) lp).trans cp0
        have cp1 := (hk6.cell (p := ⟨w0.heap.size, 1, none⟩) lp).trans cp1
        have cp2 := (hk6.cell (p := ⟨w0.heap.size, 2, none⟩) lp).trans cp2
        have cp3 := (hk6.cell (p := ⟨w0.heap.size, 3, none⟩) lp).trans cp3
        have lp := Nat.lt_of_lt_of_le lp hk6.size
        have cs0 := (hk6.cell (p := ⟨w1.heap.size, 0, none⟩) ls).trans cs0
        have cs1 := (hk6.cell (p := ⟨w1.heap.size, 1, none⟩) ls).trans cs1
        have ls := Nat.lt_of_lt_of_le ls hk6.size
        have cu0 := (hk6.cell (p := ⟨w2.heap.size, 0, none⟩) lu).trans cu0
        have cu1 := (hk6.cell (p := ⟨w2.heap.size, 1, none⟩) lu).trans cu1
        have lu := Nat.lt_of_lt_of_le lu hk6.size
        have cm0 := (hk6.cell (p := ⟨w3.heap.size, 0, none⟩) lm).trans cm0
        have cm1 := (hk6.cell (p := ⟨w3.heap.size, 1, none⟩) lm).trans cm1
        have lm := Nat.lt_of_lt_of_le lm hk6.size
        have cn0 := (hk6.cell (p := ⟨w4.heap.size, 0, none⟩) ln).trans cn0
        have cn1 := (hk6.cell (p := ⟨w4.heap.size, 1, none⟩) ln).trans cn1
        have ln := Nat.lt_of_lt_of_le ln hk6.size
        have ci0 : w6.cell? ⟨w5.heap.size, 0, none⟩ = some (.int .i64 (-v2)) := cell_later hl6 hb6
        have ci1 : w6.cell? ⟨w5.heap.size, 1, none⟩ = some (.int .i64 (-v1)) := cell_later hl6 hb6
        have li := World.block_lt_of_cell? _ _ ci0
        clear hl6
        go_wp2_with fail
        refine (add_b _ ua ub (-v2) (-v1)).mono ?_
        rintro e w7 ⟨rfl, hb7⟩
        rw [HO.out.sub2]
        have hl7 := heap_last w6 (.cells #[.int .i64 t.lo, .int .i64 t.hi] 23)
        have hk7 : Below w6.heap.size w6 w7 := chain ((Below.refl _ _).alloc (Nat.le_refl _) (.cells #[.int .i64 t.lo, .int .i64 t.hi] 23)) hb7
        have hc7 := chain hc6 hk7
        have hz7 := hk7.size
        have cp0 := (hk7.cell (p := ⟨w0.heap.size, 0, none⟩) lp).trans cp0
        have cp1 := (hk7.cell (p := ⟨w0.heap.size, 1, none⟩) lp).trans cp1
        have cp2 := (hk7.cell (p := ⟨w0.heap.size, 2, none⟩) lp).trans cp2
        have cp3 := (hk7.cell (p := ⟨w0.heap.size, 3, none⟩) lp).trans cp3
        have lp := Nat.lt_of_lt_of_le lp hk7.size
        have cs0 := (hk7.cell (p := ⟨w1.heap.size, 0, none⟩) ls).trans cs0
        have cs1 := (hk7.cell (p := ⟨w1.heap.size, 1, none⟩) ls).trans cs1
        have ls := Nat.lt_of_lt_of_le ls hk7.size
        have cu0 := (hk7.cell (p := ⟨w2.heap.size, 0, none⟩) lu).trans cu0
        have cu1 := (hk7.cell (p := ⟨w2.heap.size, 1, none⟩) lu).trans cu1
        have lu := Nat.lt_of_lt_of_le lu hk7.size
        have cm0 := (hk7.cell (p := ⟨w3.heap.size, 0, none⟩) lm).trans cm0
        have cm1 := (hk7.cell (p := ⟨w3.heap.size, 1, none⟩) lm).trans cm1
        have lm := Nat.lt_of_lt_of_le lm hk7.size
        have cn0 := (hk7.cell (p := ⟨w4.heap.size, 0, none⟩) ln).trans cn0
        have cn1 := (hk7.cell (p := ⟨w4.heap.size, 1, none⟩) ln).trans cn1
        have ln := Nat.lt_of_lt_of_le ln hk7.size
        have ci0 := (hk7.cell (p := ⟨w5.heap.size, 0, none⟩) li).trans ci0
        have ci1 := (hk7.cell (p := ⟨w5.heap.size, 1, none⟩) li).trans ci1
        have li := Nat.lt_of_lt_of_le li hk7.size
        have cd0 : w7.cell? ⟨w6.heap.size, 0, none⟩ = some (.int .i64 t.lo) := cell_later hl7 hb7
        have cd1 : w7.cell? ⟨w6.heap.size, 1, none⟩ = some (.int .i64 t.hi) := cell_later hl7 hb7
        have ld := World.block_lt_of_cell? _ _ cd0
        clear hl7
        go_wp2_with fail
        refine (hull_b _ ua ub v1 v2).mono ?_
        rintro e w8 ⟨rfl, hb8⟩
        rw [HO.out.hull]
        have hl8 := heap_last w7 (.cells #[.int .i64 t.lo, .int .i64 t.hi] 23)
        have hk8 : Below w7.heap.size w7 w8 := chain ((Below.refl _ _).alloc (Nat.le_refl _) (.cells #[.int .i64 t.lo, .int .i64 t.hi] 23)) hb8
        have hc8 := chain hc7 hk8
        have hz8 := hk8.size
        have cp0 := (hk8.cell (p := ⟨w0.heap.size, 0, none⟩) lp).trans cp0
        have cp1 := (hk8.cell (p := ⟨w0.heap.size, 1, none⟩) lp).trans cp1
        have cp2 := (hk8.cell (p := ⟨w0.heap.size, 2, none⟩) lp).trans cp2
        have cp3 := (hk8.cell (p := ⟨w0.heap.size, 3, none⟩) lp).trans cp3
        have lp := Nat.lt_of_lt_of_le lp hk8.size
        clear cs0 cs1 ls
        clear cu0 cu1 lu
        clear cm0 cm1 lm
        clear cn0 cn1 ln
        clear ci0 ci1 li
        have cd0 := (hk8.cell (p := ⟨w6.heap.size, 0, none⟩) ld).trans cd0
        have cd1 := (hk8.cell (p := ⟨w6.heap.size, 1, none⟩) ld).trans cd1
        have ld := Nat.lt_of_lt_of_le ld hk8.size
        have cc0 : w8.cell? ⟨w7.heap.size, 0, none⟩ = some (.int .i64 t.lo) := cell_later hl8 hb8
        have cc1 : w8.cell? ⟨w7.heap.size, 1, none⟩ = some (.int .i64 t.hi) := cell_later hl8 hb8
        have lc := World.block_lt_of_cell? _ _ cc0
        clear hl8
        go_wp2_with fail
        refine (meet_b _ ua ub v1 v2).mono ?_
        rintro e w9 ⟨rfl, hb9⟩
        rw [HO.out.meet]
        have hl9 := heap_last w8 (.cells #[.int .i64 x, .int .i64 y] 23)
        have hk9 : Below w8.heap.size w8 w9 := chain ((Below.refl _ _).alloc (Nat.le_refl _) (.cells #[.int .i64 x, .int .i64 y] 23)) hb9
        have hc9 := chain hc8 hk9
        have hz9 := hk9.size
        have cp0 := (hk9.cell (p := ⟨w0.heap.size, 0, none⟩) lp).trans cp0
        have cp1 := (hk9.cell (p := ⟨w0.heap.size, 1, none⟩) lp).trans cp1
        have cp2 := (hk9.cell (p := ⟨w0.heap.size, 2, none⟩) lp).trans cp2
        have cp3 := (hk9.cell (p := ⟨w0.heap.size, 3, none⟩) lp).trans cp3
        have lp := Nat.lt_of_lt_of_le lp hk9.size
        have cd0 := (hk9.cell (p := ⟨w6.heap.size, 0, none⟩) ld).trans cd0
        have cd1 := (hk9.cell (p := ⟨w6.heap.size, 1, none⟩) ld).trans cd1
        have ld := Nat.lt_of_lt_of_le ld hk9.size
        have cc0 := (hk9.cell (p := ⟨w7.heap.size, 0, none⟩) lc).trans cc0
        have cc1 := (hk9.cell (p := ⟨w7.heap.size, 1, none⟩) lc).trans cc1
        have lc := Nat.lt_of_lt_of_le lc hk9.size
        have ch0 : w9.cell? ⟨w8.heap.size, 0, none⟩ = some (.int .i64 x) := cell_later hl9 hb9
        have ch1 : w9.cell? ⟨w8.heap.size, 1, none⟩ = some (.int .i64 y) := cell_later hl9 hb9
        have lh := World.block_lt_of_cell? _ _ ch0
        clear hl9
        rcases m4 with ⟨rfl, o1, o2, j1, j2, j3, j4⟩ | ⟨rfl, rfl | rfl⟩
        · have o1' : (o == 1) = false := by simp [o1]
          have o2' : (o == -1) = false := by simp [o2]
          go_wp2_with fail
          refine (inside_ok _ _ _ _ _ i1 i2).mono ?_
          rintro e w10 ⟨rfl, hb10⟩
          have hl10 := heap_last w9 (.cells #[.int .i64 e1, .int .i64 e2] 23)
          have hk10 : Below w9.heap.size w9 w10 := chain ((Below.refl _ _).alloc (Nat.le_refl _) (.cells #[.int .i64 e1, .int .i64 e2] 23)) hb10
          have hc10 := chain hc9 hk10
          have hz10 := hk10.size
          have cp0 := (hk10.cell (p := ⟨w0.heap.size, 0, none⟩) lp).trans cp0
          have cp1 := (hk10.cell (p := ⟨w0.heap.size, 1, none⟩) lp).trans cp1
          have cp2 := (hk10.cell (p := ⟨w0.heap.size, 2, none⟩) lp).trans cp2
          have cp3 := (hk10.cell (p := ⟨w0.heap.size, 3, none⟩) lp).trans cp3
          have lp := Nat.lt_of_lt_of_le lp hk10.size
          have cd0 := (hk10.cell (p := ⟨w6.heap.size, 0, none⟩) ld).trans cd0
          have cd1 := (hk10.cell (p := ⟨w6.heap.size, 1, none⟩) ld).trans cd1
          have ld := Nat.lt_of_lt_of_le ld hk10.size
          have cc0 := (hk10.cell (p := ⟨w7.heap.size, 0, none⟩) lc).trans cc0
          have cc1 := (hk10.cell (p := ⟨w7.heap.size, 1, none⟩) lc).trans cc1
          have lc := Nat.lt_of_lt_of_le lc hk10.size
          have ch0 := (hk10.cell (p := ⟨w8.heap.size, 0, none⟩) lh).trans ch0
          have ch1 := (hk10.cell (p := ⟨w8.heap.size, 1, none⟩) lh).trans ch1
          have lh := Nat.lt_of_lt_of_le lh hk10.size
          have ce0 : w10.cell? ⟨w9.heap.size, 0, none⟩ = some (.int .i64 e1) := cell_later hl10 hb10
          have ce1 : w10.cell? ⟨w9.heap.size, 1, none⟩ = some (.int .i64 e2) := cell_later hl10 hb10
          have le := World.block_lt_of_cell? _ _ ce0
          clear hl10
          go_wp2_with fail
          refine (inside_ok _ _ _ _ _ i3 i4).mono ?_
          rintro e w11 ⟨rfl, hb11⟩
          have hk11 := hb11
          have hc11 := chain hc10 hk11
          have hz11 := hk11.size
          have cp0 := (hk11.cell (p := ⟨w0.heap.size, 0, none⟩) lp).trans cp0
          have cp1 := (hk11.cell (p := ⟨w0.heap.size, 1, none⟩) lp).trans cp1
          have cp2 := (hk11.cell (p := ⟨w0.heap.size, 2, none⟩) lp).trans cp2
          have cp3 := (hk11.cell (p := ⟨w0.heap.size, 3, none⟩) lp).trans cp3
          have lp := Nat.lt_of_lt_of_le lp hk11.size
          have cd0 := (hk11.cell (p := ⟨w6.heap.size, 0, none⟩) ld).trans cd0
          have cd1 := (hk11.cell (p := ⟨w6.heap.size, 1, none⟩) ld).trans cd1
          have ld := Nat.lt_of_lt_of_le ld hk11.size
          have cc0 := (hk11.cell (p := ⟨w7.heap.size, 0, none⟩) lc).trans cc0
          have cc1 := (hk11.cell (p := ⟨w7.heap.size, 1, none⟩) lc).trans cc1
          have lc := Nat.lt_of_lt_of_le lc hk11.size
          have ch0 := (hk11.cell (p := ⟨w8.heap.size, 0, none⟩) lh).trans ch0
          have ch1 := (hk11.cell (p := ⟨w8.heap.size, 1, none⟩) lh).trans ch1
          have lh := Nat.lt_of_lt_of_le lh hk11.size
          have ce0 := (hk11.cell (p := ⟨w9.heap.size, 0, none⟩) le).trans ce0
          have ce1 := (hk11.cell (p := ⟨w9.heap.size, 1, none⟩) le).trans ce1
          have le := Nat.lt_of_lt_of_le le hk11.size
          go_wp2_with fail
          refine (inside_ok _ _ _ _ _ j1 j2).mono ?_
          rintro e w12 ⟨rfl, hb12⟩
          have hk12 := hb12
          have hc12 := chain hc11 hk12
          have hz12 := hk12.size
          have cp0 := (hk12.cell (p := ⟨w0.heap.size, 0, none⟩) lp).trans cp0
          have cp1 := (hk12.cell (p := ⟨w0.heap.size, 1, none⟩) lp).trans cp1
          have cp2 := (hk12.cell (p := ⟨w0.heap.size, 2, none⟩) lp).trans cp2
          have cp3 := (hk12.cell (p := ⟨w0.heap.size, 3, none⟩) lp).trans cp3
          have lp := Nat.lt_of_lt_of_le lp hk12.size
          have cd0 := (hk12.cell (p := ⟨w6.heap.size, 0, none⟩) ld).trans cd0
          have cd1 := (hk12.cell (p := ⟨w6.heap.size, 1, none⟩) ld).trans cd1
          have ld := Nat.lt_of_lt_of_le ld hk12.size
          have cc0 := (hk12.cell (p := ⟨w7.heap.size, 0, none⟩) lc).trans cc0
          have cc1 := (hk12.cell (p := ⟨w7.heap.size, 1, none⟩) lc).trans cc1
          have lc := Nat.lt_of_lt_of_le lc hk12.size
          have ch0 := (hk12.cell (p := ⟨w8.heap.size, 0, none⟩) lh).trans ch0
          have ch1 := (hk12.cell (p := ⟨w8.heap.size, 1, none⟩) lh).trans ch1
          have lh := Nat.lt_of_lt_of_le lh hk12.size
          have ce0 := (hk12.cell (p := ⟨w9.heap.size, 0, none⟩) le).trans ce0
          have ce1 := (hk12.cell (p := ⟨w9.heap.size, 1, none⟩) le).trans ce1
          have le := Nat.lt_of_lt_of_le le hk12.size
          go_wp2_with fail
          refine (inside_ok _ _ _ _ _ j3 j4).mono ?_
          rintro e w13 ⟨rfl, hb13⟩
          have hk13 := hb13
          have hc13 := chain hc12 hk13
          have hz13 := hk13.size
          have cp0 := (hk13.cell (p := ⟨w0.heap.size, 0, none⟩) lp).trans cp0
          have cp1 := (hk13.cell (p := ⟨w0.heap.size, 1, none⟩) lp).trans cp1
          have cp2 := (hk13.cell (p := ⟨w0.heap.size, 2, none⟩) lp).trans cp2
          have cp3 := (hk13.cell (p := ⟨w0.heap.size, 3, none⟩) lp).trans cp3
          have lp := Nat.lt_of_lt_of_le lp hk13.size
          have cd0 := (hk13.cell (p := ⟨w6.heap.size, 0, none⟩) ld).trans cd0
          have cd1 := (hk13.cell (p := ⟨w6.heap.size, 1, none⟩) ld).trans cd1
          have ld := Nat.lt_of_lt_of_le ld hk13.size
          have cc0 := (hk13.cell (p := ⟨w7.heap.size, 0, none⟩) lc).trans cc0
          have cc1 := (hk13.cell (p := ⟨w7.heap.size, 1, none⟩) lc).trans cc1
          have lc := Nat.lt_of_lt_of_le lc hk13.size
          have ch0 := (hk13.cell (p := ⟨w8.heap.size, 0, none⟩) lh).trans ch0
          have ch1 := (hk13.cell (p := ⟨w8.heap.size, 1, none⟩) lh).trans ch1
          have lh := Nat.lt_of_lt_of_le lh hk13.size
          have ce0 := (hk13.cell (p := ⟨w9.heap.size, 0, none⟩) le).trans ce0
          have ce1 := (hk13.cell (p := ⟨w9.heap.size, 1, none⟩) le).trans ce1
          have le := Nat.lt_of_lt_of_le le hk13.size
          go_wp2_with fail
          refine (cmp_b _ ua ub v1 v2).mono ?_
          rintro e w14 ⟨rfl, hb14⟩
          rw [HO.out.cmp]
          rw [HO.out.cmpe]
          have hk14 := hb14
          have hc14 := chain hc13 hk14
          have hz14 := hk14.size
          clear cp0 cp1 cp2 cp3 lp
          have cd0 := (hk14.cell (p := ⟨w6.heap.size, 0, none⟩) ld).trans cd0
          have cd1 := (hk14.cell (p := ⟨w6.heap.size, 1, none⟩) ld).trans cd1
          have ld := Nat.lt_of_lt_of_le ld hk14.size
          clear cc0 cc1 lc
          clear ch0 ch1 lh
          clear ce0 ce1 le
          go_wp2_with fail
          refine (sign_b _ t.lo t.hi).mono ?_
          rintro e w15 ⟨rfl, hb15⟩
          rw [HO.out.sgn]
          rw [HO.out.sgne]
          have hk15 := hb15
          have hc15 := chain hc14 hk15
          have hz15 := hk15.size
          have cd0 := (hk15.cell (p := ⟨w6.heap.size, 0, none⟩) ld).trans cd0
          have cd1 := (hk15.cell (p := ⟨w6.heap.size, 1, none⟩) ld).trans cd1
          have ld := Nat.lt_of_lt_of_le ld hk15.size
          rcases te with te | ⟨te, rfl, rfl⟩
          · have te' : (t.e == 0) = false := by simp [te]
            go_wp2_with fail
            go_roundw
            case rel => exact ⟨3, by omega, rfl, hc15⟩
            case measure => simp [intOf]
          · have te' : (t.e == 0) = true := by simp [te]
            go_wp2_with fail
            go_roundw
            case rel => exact ⟨3, by omega, rfl, hc15⟩
            case measure => simp [intOf]
        · go_wp2_with fail
          refine (inside_ok _ _ _ _ _ i1 i2).mono ?_
          rintro e w10 ⟨rfl, hb10⟩
          have hl10 := heap_last w9 (.cells #[.int .i64 e1, .int .i64 e2] 23)
          have hk10 : Below w9.heap.size w9 w10 := chain ((Below.refl _ _).alloc (Nat.le_refl _) (.cells #[.int .i64 e1, .int .i64 e2] 23)) hb10
          have hc10 := chain hc9 hk10
          have hz10 := hk10.size
          have cp0 := (hk10.cell (p := ⟨w0.heap.size, 0, none⟩) lp).trans cp0
          have cp1 := (hk10.cell (p := ⟨w0.heap.size, 1, none⟩) lp).trans cp1
          have cp2 := (hk10.cell (p := ⟨w0.heap.size, 2, none⟩) lp).trans cp2
          have cp3 := (hk10.cell (p := ⟨w0.heap.size, 3, none⟩) lp).trans cp3
          have lp := Nat.lt_of_lt_of_le lp hk10.size
          have cd0 := (hk10.cell (p := ⟨w6.heap.size, 0, none⟩) ld).trans cd0
          have cd1 := (hk10.cell (p := ⟨w6.heap.size, 1, none⟩) ld).trans cd1
          have ld := Nat.lt_of_lt_of_le ld hk10.size
          have cc0 := (hk10.cell (p := ⟨w7.heap.size, 0, none⟩) lc).trans cc0
          have cc1 := (hk10.cell (p := ⟨w7.heap.size, 1, none⟩) lc).trans cc1
          have lc := Nat.lt_of_lt_of_le lc hk10.size
          have ch0 := (hk10.cell (p := ⟨w8.heap.size, 0, none⟩) lh).trans ch0
          have ch1 := (hk10.cell (p := ⟨w8.heap.size, 1, none⟩) lh).trans ch1
          have lh := Nat.lt_of_lt_of_le lh hk10.size
          have ce0 : w10.cell? ⟨w9.heap.size, 0, none⟩ = some (.int .i64 e1) := cell_later hl10 hb10
          have ce1 : w10.cell? ⟨w9.heap.size, 1, none⟩ = some (.int .i64 e2) := cell_later hl10 hb10
          have le := World.block_lt_of_cell? _ _ ce0
          clear hl10
          go_wp2_with fail
          refine (inside_ok _ _ _ _ _ i3 i4).mono ?_
          rintro e w11 ⟨rfl, hb11⟩
          have hk11 := hb11
          have hc11 := chain hc10 hk11
          have hz11 := hk11.size
          have cp0 := (hk11.cell (p := ⟨w0.heap.size, 0, none⟩) lp).trans cp0
          have cp1 := (hk11.cell (p := ⟨w0.heap.size, 1, none⟩) lp).trans cp1
          have cp2 := (hk11.cell (p := ⟨w0.heap.size, 2, none⟩) lp).trans cp2
          have cp3 := (hk11.cell (p := ⟨w0.heap.size, 3, none⟩) lp).trans cp3
          have lp := Nat.lt_of_lt_of_le lp hk11.size
          have cd0 := (hk11.cell (p := ⟨w6.heap.size, 0, none⟩) ld).trans cd0
          have cd1 := (hk11.cell (p := ⟨w6.heap.size, 1, none⟩) ld).trans cd1
          have ld := Nat.lt_of_lt_of_le ld hk11.size
          have cc0 := (hk11.cell (p := ⟨w7.heap.size, 0, none⟩) lc).trans cc0
          have cc1 := (hk11.cell (p := ⟨w7.heap.size, 1, none⟩) lc).trans cc1
          have lc := Nat.lt_of_lt_of_le lc hk11.size
          have ch0 := (hk11.cell (p := ⟨w8.heap.size, 0, none⟩) lh).trans ch0
          have ch1 := (hk11.cell (p := ⟨w8.heap.size, 1, none⟩) lh).trans ch1
          have lh := Nat.lt_of_lt_of_le lh hk11.size
          have ce0 := (hk11.cell (p := ⟨w9.heap.size, 0, none⟩) le).trans ce0
          have ce1 := (hk11.cell (p := ⟨w9.heap.size, 1, none⟩) le).trans ce1
          have le := Nat.lt_of_lt_of_le le hk11.size
          go_wp2_with fail
          refine (cmp_b _ ua ub v1 v2).mono ?_
          rintro e w12 ⟨rfl, hb12⟩
          rw [HO.out.cmp]
          rw [HO.out.cmpe]
          have hk12 := hb12
          have hc12 := chain hc11 hk12
          have hz12 := hk12.size
          clear cp0 cp1 cp2 cp3 lp
          have cd0 := (hk12.cell (p := ⟨w6.heap.size, 0, none⟩) ld).trans cd0
          have cd1 := (hk12.cell (p := ⟨w6.heap.size, 1, none⟩) ld).trans cd1
          have ld := Nat.lt_of_lt_of_le ld hk12.size
          clear cc0 cc1 lc
          clear ch0 ch1 lh
          clear ce0 ce1 le
          go_wp2_with fail
          refine (sign_b _ t.lo t.hi).mono ?_
          rintro e w13 ⟨rfl, hb13⟩
          rw [HO.out.sgn]
          rw [HO.out.sgne]
          have hk13 := hb13
          have hc13 := chain hc12 hk13
          have hz13 := hk13.size
          have cd0 := (hk13.cell (p := ⟨w6.heap.size, 0, none⟩) ld).trans cd0
          have cd1 := (hk13.cell (p := ⟨w6.heap.size, 1, none⟩) ld).trans cd1
          have ld := Nat.lt_of_lt_of_le ld hk13.size
          rcases te with te | ⟨te, rfl, rfl⟩
          · have te' : (t.e == 0) = false := by simp [te]
            go_wp2_with fail
            go_roundw
            case rel => exact ⟨3, by omega, rfl, hc13⟩
            case measure => simp [intOf]
          · have te' : (t.e == 0) = true := by simp [te]
            go_wp2_with fail
            go_roundw
            case rel => exact ⟨3, by omega, rfl, hc13⟩
            case measure => simp [intOf]
        · go_wp2_with fail
          refine (inside_ok _ _ _ _ _ i1 i2).mono ?_
          rintro e w10 ⟨rfl, hb10⟩
          have hl10 := heap_last w9 (.cells #[.int .i64 e1, .int .i64 e2] 23)
          have hk10 : Below w9.heap.size w9 w10 := chain ((Below.refl _ _).alloc (Nat.le_refl _) (.cells #[.int .i64 e1, .int .i64 e2] 23)) hb10
          have hc10 := chain hc9 hk10
          have hz10 := hk10.size
          have cp0 := (hk10.cell (p := ⟨w0.heap.size, 0, none⟩) lp).trans cp0
          have cp1 := (hk10.cell (p := ⟨w0.heap.size, 1, none⟩) lp).trans cp1
          have cp2 := (hk10.cell (p := ⟨w0.heap.size, 2, none⟩) lp).trans cp2
          have cp3 := (hk10.cell (p := ⟨w0.heap.size, 3, none⟩) lp).trans cp3
          have lp := Nat.lt_of_lt_of_le lp hk10.size
          have cd0 := (hk10.cell (p := ⟨w6.heap.size, 0, none⟩) ld).trans cd0
          have cd1 := (hk10.cell (p := ⟨w6.heap.size, 1, none⟩) ld).trans cd1
          have ld := Nat.lt_of_lt_of_le ld hk10.size
          have cc0 := (hk10.cell (p := ⟨w7.heap.size, 0, none⟩) lc).trans cc0
          have cc1 := (hk10.cell (p := ⟨w7.heap.size, 1, none⟩) lc).trans cc1
          have lc := Nat.lt_of_lt_of_le lc hk10.size
          have ch0 := (hk10.cell (p := ⟨w8.heap.size, 0, none⟩) lh).trans ch0
          have ch1 := (hk10.cell (p := ⟨w8.heap.size, 1, none⟩) lh).trans ch1
          have lh := Nat.lt_of_lt_of_le lh hk10.size
          have ce0 : w10.cell? ⟨w9.heap.size, 0, none⟩ = some (.int .i64 e1) := cell_later hl10 hb10
          have ce1 : w10.cell? ⟨w9.heap.size, 1, none⟩ = some (.int .i64 e2) := cell_later hl10 hb10
          have le := World.block_lt_of_cell? _ _ ce0
          clear hl10
          go_wp2_with fail
          refine (inside_ok _ _ _ _ _ i3 i4).mono ?_
          rintro e w11 ⟨rfl, hb11⟩
          have hk11 := hb11
          have hc11 := chain hc10 hk11
          have hz11 := hk11.size
          have cp0 := (hk11.cell (p := ⟨w0.heap.size, 0, none⟩) lp).trans cp0
          have cp1 := (hk11.cell (p := ⟨w0.heap.size, 1, none⟩) lp).trans cp1
          have cp2 := (hk11.cell (p := ⟨w0.heap.size, 2, none⟩) lp).trans cp2
          have cp3 := (hk11.cell (p := ⟨w0.heap.size, 3, none⟩) lp).trans cp3
          have lp := Nat.lt_of_lt_of_le lp hk11.size
          have cd0 := (hk11.cell (p := ⟨w6.heap.size, 0, none⟩) ld).trans cd0
          have cd1 := (hk11.cell (p := ⟨w6.heap.size, 1, none⟩) ld).trans cd1
          have ld := Nat.lt_of_lt_of_le ld hk11.size
          have cc0 := (hk11.cell (p := ⟨w7.heap.size, 0, none⟩) lc).trans cc0
          have cc1 := (hk11.cell (p := ⟨w7.heap.size, 1, none⟩) lc).trans cc1
          have lc := Nat.lt_of_lt_of_le lc hk11.size
          have ch0 := (hk11.cell (p := ⟨w8.heap.size, 0, none⟩) lh).trans ch0
          have ch1 := (hk11.cell (p := ⟨w8.heap.size, 1, none⟩) lh).trans ch1
          have lh := Nat.lt_of_lt_of_le lh hk11.size
          have ce0 := (hk11.cell (p := ⟨w9.heap.size, 0, none⟩) le).trans ce0
          have ce1 := (hk11.cell (p := ⟨w9.heap.size, 1, none⟩) le).trans ce1
          have le := Nat.lt_of_lt_of_le le hk11.size
          go_wp2_with fail
          refine (cmp_b _ ua ub v1 v2).mono ?_
          rintro e w12 ⟨rfl, hb12⟩
          rw [HO.out.cmp]
          rw [HO.out.cmpe]
          have hk12 := hb12
          have hc12 := chain hc11 hk12
          have hz12 := hk12.size
          clear cp0 cp1 cp2 cp3 lp
          have cd0 := (hk12.cell (p := ⟨w6.heap.size, 0, none⟩) ld).trans cd0
          have cd1 := (hk12.cell (p := ⟨w6.heap.size, 1, none⟩) ld).trans cd1
          have ld := Nat.lt_of_lt_of_le ld hk12.size
          clear cc0 cc1 lc
          clear ch0 ch1 lh
          clear ce0 ce1 le
          go_wp2_with fail
          refine (sign_b _ t.lo t.hi).mono ?_
          rintro e w13 ⟨rfl, hb13⟩
          rw [HO.out.sgn]
          rw [HO.out.sgne]
          have hk13 := hb13
          have hc13 := chain hc12 hk13
          have hz13 := hk13.size
          have cd0 := (hk13.cell (p := ⟨w6.heap.size, 0, none⟩) ld).trans cd0
          have cd1 := (hk13.cell (p := ⟨w6.heap.size, 1, none⟩) ld).trans cd1
          have ld := Nat.lt_of_lt_of_le ld hk13.size
          rcases te with te | ⟨te, rfl, rfl⟩
          · have te' : (t.e == 0) = false := by simp [te]
            go_wp2_with fail
            go_roundw
            case rel => exact ⟨3, by omega, rfl, hc13⟩
            case measure => simp [intOf]
          · have te' : (t.e == 0) = true := by simp [te]
            go_wp2_with fail
            go_roundw
            case rel => exact ⟨3, by omega, rfl, hc13⟩
            case measure => simp [intOf]
    · go_wp2
      go_ret
      exact ⟨rfl, chain hW2 hbr⟩

end Go.Proofs.YtkajibniibjblaaGreatDoor
