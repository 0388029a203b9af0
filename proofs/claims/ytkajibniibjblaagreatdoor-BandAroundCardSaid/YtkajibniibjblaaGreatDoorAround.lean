/-
  BandAround: the walk. UNDER WAY.
-/
import Derived.Test.YtkajibniibjblaaGreatDoorClamps
import Derived.Test.YtkajibniibjblaaGreatDoorDraftR
import Derived.Test.YtkajibniibjblaaGreatDoorHas
import Derived.Deep.QuietTactic
import Derived.BigQuiet
namespace Go.Proofs.YtkajibniibjblaaGreatDoor
open Go.RowKit
set_option maxRecDepth 100000

theorem told_form {z : Int} {b : Nat} (h : Hid (0 < b ∧ b ≤ 65535 ∧ z.natAbs ≤ 65535)) : ∃ N D, toldQ (mkRat z b) = .agg #[.string N, .string D] ∧ Hid (toldS (mkRat z b).num = N ∧ toldS ((mkRat z b).den : Int) = D) := by
  have hh := h.out
  exact ⟨_, _, SmQ.told (smQ_mk hh.1 (by omega) (by omega) (by omega)), Lib.hid ⟨rfl, rfl⟩⟩
theorem build2 (W : World) (N D N' D' : ByteArray) : (Instr.build 67 #[(0, .agg #[.string N, .string D]), (1, .agg #[.string N', .string D'])]).run Tryz.prog W = .ok (.agg #[.string N, .string D, .string N', .string D']) W := by kernel_rfl

theorem idxF_0 (W : World) (N D N' D' : ByteArray) : (Instr.index 67 (.agg #[.string N, .string D, .string N', .string D']) (.int .i64 0)).run Tryz.prog W = .ok (.agg #[.string N, .string D]) W := by kernel_rfl
theorem idxF_1 (W : World) (N D N' D' : ByteArray) : (Instr.index 67 (.agg #[.string N, .string D, .string N', .string D']) (.int .i64 1)).run Tryz.prog W = .ok (.agg #[.string N', .string D']) W := by kernel_rfl
/-- All that BandAround asks of a fraction: its band, and the text of its lower end. -/
structure AF (N D : ByteArray) (q : Rat) (lo hi : Int) (N' D' : ByteArray) : Prop where
  vq : VQ N D q
  ar : aroundB q = ⟨lo, hi, 0⟩
  u0 : -100000000000000000 ≤ unitsF q
  u1 : unitsF q ≤ 100000000000000000
  ok : okB lo hi = true
  wd : hi - lo ≤ 1
  has : hasB lo hi q = true
  low : toldQ (mkRat lo 1000000000000) = .agg #[.string N', .string D']
  lowE : toldQE (mkRat lo 1000000000000) = 0
  eq : lo = hi ↔ (N' = N ∧ D' = D)
theorem af_of {z : Int} {b : Nat} {N D : ByteArray} (h : Hid (0 < b ∧ b ≤ 65535 ∧ z.natAbs ≤ 65535)) (hN : Hid (toldS (mkRat z b).num = N ∧ toldS ((mkRat z b).den : Int) = D)) : ∃ q lo hi N' D', AF N D q lo hi N' D' := by
  obtain ⟨lo, hi, h1, h2, h3, h4, h5, h6, h7⟩ := around_small h.out.1 h.out.2.1 h.out.2.2
  obtain ⟨rfl, rfl⟩ := hN.out
  have hu := unitsF_small h.out.1 h.out.2.2
  exact ⟨mkRat z b, lo, hi, _, _, h5.vq, h1, hu.1, hu.2, h2, h3, h4, h6.told, h6.toldE, h7⟩
theorem af_around (w : World) (henv : Env2 w) {N D N' D' : ByteArray} {q : Rat} {lo hi : Int} (h : AF N D q lo hi N' D') :
    Calls Tryz.prog 36 #[.agg #[.string N, .string D]] w fun e w' => e = .returned (.tuple #[bandV lo hi, .int .i64 0]) ∧ Below w.heap.size w w' := by
  have h1 := h.u0
  have h2 := h.u1
  have h3 := around_in w henv N D q h.vq (by omega) (by omega) (fits_i64 (by omega) (by omega))
  rw [h.ar] at h3
  exact h3
theorem af_has (w : World) (henv : Env2 w) {N D N' D' : ByteArray} {q : Rat} {lo hi : Int} (h : AF N D q lo hi N' D') :
    Calls Tryz.prog 38 #[bandV lo hi, .agg #[.string N, .string D]] w (RetH w true 0) := by
  rw [← h.has]
  exact has_any w henv lo hi N D q h.vq h.ok
theorem af_low (w : World) (henv : Env2 w) {N D N' D' : ByteArray} {q : Rat} {lo hi : Int} (h : AF N D q lo hi N' D') :
    Calls Tryz.prog 40 #[bandV lo hi] w fun e w' => e = .returned (.tuple #[.agg #[.string N', .string D'], .int .i64 0]) ∧ Below w.heap.size w w' := by
  rw [← h.low, ← h.lowE]
  exact low_any w henv.toEnv lo hi h.ok

theorem bytes_ne {a b : ByteArray} (h : ¬ a = b) : ¬ a.toList = b.toList := fun e => h (by
  rw [Lib.toList_data, Lib.toList_data] at e
  rcases a with ⟨⟨l⟩⟩
  rcases b with ⟨⟨m⟩⟩
  exact congrArg (fun x => (⟨⟨x⟩⟩ : ByteArray)) e)
/-- The text of a band's end, and what it reads as. -/
structure LF (i : Int) (N D : ByteArray) : Prop where
  told : toldQ (mkRat i 1000000000000) = .agg #[.string N, .string D]
  toldE : toldQE (mkRat i 1000000000000) = 0
  vq : VQ N D (mkRat i 1000000000000)
theorem lf_of {i : Int} (h0 : -1000000000000000000 ≤ i) (h1 : i ≤ 1000000000000000000) : ∃ N D, LF i N D := by
  have h := smQ_mk (z := i) (b := 1000000000000) (by decide) (by omega) (by omega) (by decide)
  exact ⟨_, _, h.told, h.toldE, h.vq⟩
theorem lf_around (w : World) (henv : Env2 w) {i : Int} (h0 : -1000000000000000000 ≤ i) (h1 : i ≤ 1000000000000000000) {N D : ByteArray} (h : LF i N D) :
    Calls Tryz.prog 36 #[.agg #[.string N, .string D]] w fun e w' => e = .returned (.tuple #[bandV i i, .int .i64 0]) ∧ Below w.heap.size w w' := by
  have hu := unitsF_unit i
  have h3 := around_in w henv N D _ h.vq (by omega) (by omega) (by rw [hu]; exact fits_i64 (by omega) (by omega))
  rw [around_unit2 h0 h1] at h3
  exact h3
theorem lf_low (w : World) (henv : Env2 w) {lo hi : Int} (hok : okB lo hi = true) {N D : ByteArray} (h : LF lo N D) :
    Calls Tryz.prog 40 #[bandV lo hi] w fun e w' => e = .returned (.tuple #[.agg #[.string N, .string D], .int .i64 0]) ∧ Below w.heap.size w w' := by
  rw [← h.told, ← h.toldE]
  exact low_any w henv.toEnv lo hi hok
theorem lf_high (w : World) (henv : Env2 w) {lo hi : Int} (hok : okB lo hi = true) {N D : ByteArray} (h : LF hi N D) :
    Calls Tryz.prog 42 #[bandV lo hi] w fun e w' => e = .returned (.tuple #[.agg #[.string N, .string D], .int .i64 0]) ∧ Below w.heap.size w w' := by
  rw [← h.told, ← h.toldE]
  exact high_any w henv.toEnv lo hi hok

set_option maxHeartbeats 4000000 in
theorem around_walk (w : World) (henv : Env2 w) (bl : Bool) (A : Option Addr) (n c : Nat) (z : Int) (xs : List Int) (hx : Rd w .u16 A n c xs) (hk : ∀ x ∈ xs, 0 ≤ x ∧ x ≤ 65535)
    (bm : Bool) (B : Option Addr) (m d : Nat) (y : Int) (ys : List Int) (hy : Rd w .u16 B m d ys) (hl : ∀ x ∈ ys, 0 ≤ x ∧ x ≤ 65535)
    (a u : Int) (ha0 : -9223372036854775808 ≤ a) (ha1 : a ≤ 9223372036854775807) (hu0 : 0 ≤ u) (hu1 : u ≤ 4294967295) :
    Calls Tryz.prog 7 #[.agg #[.bool bl, .slice A n c, .int .u16 z, .bool bm, .slice B m d, .int .u16 y], .agg #[.int .i64 a, .int .u32 u]] w fun e w' => e = .returned (.bool true) ∧ Below w.heap.size w w' := by
  have hW : Below w.heap.size w ((w.alloc (.cells #[.bool bl, .slice A n c, .int .u16 z, .bool bm, .slice B m d, .int .u16 y] 56)).alloc (.cells #[.int .i64 a, .int .u32 u] 26)) := (((Below.refl w.heap.size w).alloc (Nat.le_refl _) _).alloc (by simp <;> omega) _)
  have o1 := heap_more (heap_last w (.cells #[.bool bl, .slice A n c, .int .u16 z, .bool bm, .slice B m d, .int .u16 y] 56)) (.cells #[.int .i64 a, .int .u32 u] 26)
  have O1 := Lib.hid o1
  clear o1
  have o2 := heap_last (w.alloc (.cells #[.bool bl, .slice A n c, .int .u16 z, .bool bm, .slice B m d, .int .u16 y] 56)) (.cells #[.int .i64 a, .int .u32 u] 26)
  rw [show (w.alloc (.cells #[.bool bl, .slice A n c, .int .u16 z, .bool bm, .slice B m d, .int .u16 y] 56)).heap.size = w.heap.size + 1 by simp] at o2
  have O2 := Lib.hid o2
  clear o2
  have hsz : ((w.alloc (.cells #[.bool bl, .slice A n c, .int .u16 z, .bool bm, .slice B m d, .int .u16 y] 56)).alloc (.cells #[.int .i64 a, .int .u32 u] 26)).heap.size = w.heap.size + 1 + 1 := by simp
  have HSZ := Lib.hid hsz
  clear hsz
  have HE := Lib.hid (henv.below hW)
  clear henv
  go_enter Tryz.func7, Tryz.ntmps7
  go_wp2_with fail
  refine (works_any _ HE.out).mono ?_
  rintro e w1 ⟨rfl, hbw⟩
  have hW1 := chain hW hbw
  have OX := Lib.hid (blk_later O1.out hbw)
  have OY := Lib.hid (blk_later O2.out hbw)
  have HE1 := Lib.hid (HE.out.below hbw)
  have HX1 := Lib.hid (hx.below hW1)
  have HY1 := Lib.hid (hy.below hW1)
  have x0 := cell_later (j := 0) O1.out hbw
  have x1 := cell_later (j := 1) O1.out hbw
  have x2 := cell_later (j := 2) O1.out hbw
  have x3 := cell_later (j := 3) O1.out hbw
  have x4 := cell_later (j := 4) O1.out hbw
  have x5 := cell_later (j := 5) O1.out hbw
  simp at x0 x1 x2 x3 x4 x5
  go_wp2_with fail
  have HS : Hid (∀ w', Below w1.heap.size w1 w' → w'.cell? ⟨w.heap.size, 0, none⟩ = some (.bool bl) ∧ w'.cell? ⟨w.heap.size, 1, none⟩ = some (.slice A n c) ∧ w'.cell? ⟨w.heap.size, 2, none⟩ = some (.int .u16 z) ∧ w'.cell? ⟨w.heap.size, 3, none⟩ = some (.bool bm) ∧ w'.cell? ⟨w.heap.size, 4, none⟩ = some (.slice B m d) ∧ w'.cell? ⟨w.heap.size, 5, none⟩ = some (.int .u16 y)) := fun w' h => ⟨(cell_later (j := 0) OX.out h).trans (by simp), (cell_later (j := 1) OX.out h).trans (by simp), (cell_later (j := 2) OX.out h).trans (by simp), (cell_later (j := 3) OX.out h).trans (by simp), (cell_later (j := 4) OX.out h).trans (by simp), (cell_later (j := 5) OX.out h).trans (by simp)⟩
  have hd0 : Below w1.heap.size w1 w1.drew := (Below.refl _ _).drew
  go_region_held3 (fun w' => w'.cell? ⟨w.heap.size, 0, none⟩ = some (.bool bl) ∧ w'.cell? ⟨w.heap.size, 1, none⟩ = some (.slice A n c) ∧ w'.cell? ⟨w.heap.size, 2, none⟩ = some (.int .u16 z) ∧ w'.cell? ⟨w.heap.size, 3, none⟩ = some (.bool bm) ∧ w'.cell? ⟨w.heap.size, 4, none⟩ = some (.slice B m d) ∧ w'.cell? ⟨w.heap.size, 5, none⟩ = some (.int .u16 y))
    (first | with_reducible exact HS.out _ hd0 | with_reducible exact HS.out _ hd1 | with_reducible exact HS.out _ hd2)
    (first
      | (go_at_call 34; (refine (P4.short_any _ bl A n c z xs (HX1.out.below hd0) hk bm B m d y ys (HY1.out.below hd0) hl).mono ?_); rintro e w2 ⟨p1, b1, rfl, hq1, hb1⟩; obtain ⟨N1, D1, hT1, hN1⟩ := told_form hq1; rw [hT1]; have hd1 := chain hd0 hb1)
      | (go_at_call 35; (refine (P4.unit_any _ bl A n c z xs (HX1.out.below hd1) hk bm B m d y ys (HY1.out.below hd1) hl).mono ?_); rintro e w3 ⟨p2, b2, rfl, hq2, hb2⟩; obtain ⟨N2, D2, hT2, hN2⟩ := told_form hq2; rw [hT2]; have hd2 := chain hd1 hb2))
  obtain ⟨q1, lo1, hi1, N3, D3, AF1⟩ := af_of hq1 hN1
  obtain ⟨q2, lo2, hi2, N4, D4, AF2⟩ := af_of hq2 hN2
  have HA1 := Lib.hid AF1
  have HA2 := Lib.hid AF2
  clear AF1 AF2
  go_wp2_with fail
  have hix0 := idxF_0
  have hix1 := idxF_1
  have HE3 := Lib.hid (HE1.out.below hd2)
  have hW3 := chain hW1 hd2
  have hq := hd2
  refine wp_loop_rounds 3 ?_
  rw [rounds_succ]
  go_wp2_with fail
  refine (af_around _ (HE3.out.below ((Below.refl _ _).alloc (Nat.le_refl _) _)) HA1.out).mono ?_
  rintro e v11 ⟨rfl, hb11⟩
  have OA1 := Lib.hid (heap_last w3 (.cells #[.string N1, .string D1] 51))
  have ya10 := cell_later (j := 0) OA1.out hb11
  have ya11 := cell_later (j := 1) OA1.out hb11
  simp at ya10 ya11
  have hz11 := hb11.size
  simp at hz11
  have hs101 : w3.heap.size < v11.heap.size := by omega
  have hk11 : Below w3.heap.size w3 v11 := chain ((Below.refl _ _).alloc (Nat.le_refl _) _) hb11
  have HE11 := Lib.hid (HE3.out.below hk11)
  go_wp2_with fail
  refine (af_has _ (HE11.out.below ((Below.refl _ _).alloc (Nat.le_refl _) _)) HA1.out).mono ?_
  rintro e v12 ⟨rfl, hb12⟩
  have OB1 := Lib.hid (heap_last v11 (.cells #[.int .i64 lo1, .int .i64 hi1] 23))
  have yb10 := cell_later (j := 0) OB1.out hb12
  have yb11 := cell_later (j := 1) OB1.out hb12
  simp at yb10 yb11
  have hz12 := hb12.size
  simp at hz12
  have hs112 : v11.heap.size < v12.heap.size := by omega
  have hs102 : w3.heap.size < v12.heap.size := by omega
  have hk12 : Below v11.heap.size v11 v12 := chain ((Below.refl _ _).alloc (Nat.le_refl _) _) hb12
  have HE12 := Lib.hid (HE11.out.below hk12)
  have OA12 := Lib.hid (blk_later (blk_later OA1.out hb11) hk12)
  go_wp2_with fail
  refine (af_low _ HE12.out HA1.out).mono ?_
  rintro e v13 ⟨rfl, hb13⟩
  have hz13 := hb13.size
  have hs113 : v11.heap.size < v13.heap.size := by omega
  have hs103 : w3.heap.size < v13.heap.size := by omega
  have HE13 := Lib.hid (HE12.out.below hb13)
  have ta10 := cell_later (j := 0) OA12.out hb13
  have ta11 := cell_later (j := 1) OA12.out hb13
  have OB13 := Lib.hid (blk_later OB1.out hb12)
  have tb10 := cell_later (j := 0) OB13.out hb13
  have tb11 := cell_later (j := 1) OB13.out hb13
  simp at ta10 ta11 tb10 tb11
  obtain ⟨v14, hwz1⟩ : ∃ wz, v13.alloc (.cells #[.string N3, .string D3] 51) = wz := ⟨_, rfl⟩
  have hb14 : Below v13.heap.size v13 v14 := by rw [← hwz1]; exact (Below.refl _ _).alloc (Nat.le_refl _) _
  have OC1 := Lib.hid (heap_last v13 (.cells #[.string N3, .string D3] 51))
  rw [hwz1] at OC1
  have OA14 := Lib.hid (blk_later (blk_later OA12.out hb13) hb14)
  have OB14 := Lib.hid (blk_later (blk_later OB13.out hb13) hb14)
  have HE14 := Lib.hid (HE13.out.below hb14)
  have hk14 : Below w3.heap.size w3 v14 := chain (chain (chain hk11 hk12) hb13) hb14
  go_wp2_with fail
  go_cut [80] (fun p wx => p = .bool false ∧ Below v14.heap.size v14 wx)
  case first => as_aux_lemma =>
    have hwd := HA1.out.wd
    have hwd2 : decide (1 < hi1 - lo1) = false := by simp; omega
    have u0 := cell_later (j := 0) OA14.out (Below.refl _ _)
    have u1 := cell_later (j := 1) OA14.out (Below.refl _ _)
    have u2 := cell_later (j := 0) OB14.out (Below.refl _ _)
    have u3 := cell_later (j := 1) OB14.out (Below.refl _ _)
    have u4 := cell_later (j := 0) OC1.out (Below.refl _ _)
    have u5 := cell_later (j := 1) OC1.out (Below.refl _ _)
    simp at u0 u1 u2 u3 u4 u5
    by_cases hE : lo1 = hi1
    · obtain ⟨rfl, rfl⟩ := HA1.out.eq.1 hE
      subst hE
      go_quiet (fail)
      go_wp2_with fail
      go_meet
      exact ⟨rfl, below_drewN (Below.refl _ _) _⟩
    · have hE2 : ¬ (N3 = N1 ∧ D3 = D1) := fun h => hE (HA1.out.eq.2 h)
      obtain rfl : hi1 = lo1 + 1 := by have := (ok_iff _ _).1 HA1.out.ok; omega
      have hS : lo1 + 1 - lo1 = 1 := by omega
      have hE3 : (lo1 == lo1 + 1) = false := by rw [beq_eq_false_iff_ne]; omega
      have hE4 : decide (lo1 = lo1 + 1) = false := decide_eq_false (by omega)
      clear hwd hwd2
      by_cases hN : N3 = N1
      · subst hN
        have hD := bytes_ne (fun h : D3 = D1 => hE2 ⟨rfl, h⟩)
        clear hE2
        go_quiet (fail)
        go_wp2_with fail
        go_meet
        exact ⟨rfl, below_drewN (Below.refl _ _) _⟩
      · have hN2 := bytes_ne hN
        clear hE2
        go_quiet (fail)
        go_wp2_with fail
        go_meet
        exact ⟨rfl, below_drewN (Below.refl _ _) _⟩
  obtain ⟨rfl, hb15⟩ := hcut
  obtain ⟨v15, hwc1⟩ : ∃ x : World, x = wc := ⟨_, rfl⟩
  rw [← hwc1] at hb15 ⊢
  clear hwc1
  have HE15 := Lib.hid (HE14.out.below hb15)
  have hq1 := chain hq (chain hk14 hb15)
  go_wp2_with fail
  rw [rounds_succ]
  go_wp2_with fail
  refine (af_around _ (HE15.out.below ((Below.refl _ _).alloc (Nat.le_refl _) _)) HA2.out).mono ?_
  rintro e v21 ⟨rfl, hb21⟩
  have OA2 := Lib.hid (heap_last v15 (.cells #[.string N2, .string D2] 51))
  have ya20 := cell_later (j := 0) OA2.out hb21
  have ya21 := cell_later (j := 1) OA2.out hb21
  simp at ya20 ya21
  have hz21 := hb21.size
  simp at hz21
  have hs201 : v15.heap.size < v21.heap.size := by omega
  have hk21 : Below v15.heap.size v15 v21 := chain ((Below.refl _ _).alloc (Nat.le_refl _) _) hb21
  have HE21 := Lib.hid (HE15.out.below hk21)
  go_wp2_with fail
  refine (af_has _ (HE21.out.below ((Below.refl _ _).alloc (Nat.le_refl _) _)) HA2.out).mono ?_
  rintro e v22 ⟨rfl, hb22⟩
  have OB2 := Lib.hid (heap_last v21 (.cells #[.int .i64 lo2, .int .i64 hi2] 23))
  have yb20 := cell_later (j := 0) OB2.out hb22
  have yb21 := cell_later (j := 1) OB2.out hb22
  simp at yb20 yb21
  have hz22 := hb22.size
  simp at hz22
  have hs212 : v21.heap.size < v22.heap.size := by omega
  have hs202 : v15.heap.size < v22.heap.size := by omega
  have hk22 : Below v21.heap.size v21 v22 := chain ((Below.refl _ _).alloc (Nat.le_refl _) _) hb22
  have HE22 := Lib.hid (HE21.out.below hk22)
  have OA22 := Lib.hid (blk_later (blk_later OA2.out hb21) hk22)
  go_wp2_with fail
  refine (af_low _ HE22.out HA2.out).mono ?_
  rintro e v23 ⟨rfl, hb23⟩
  have hz23 := hb23.size
  have hs213 : v21.heap.size < v23.heap.size := by omega
  have hs203 : v15.heap.size < v23.heap.size := by omega
  have HE23 := Lib.hid (HE22.out.below hb23)
  have ta20 := cell_later (j := 0) OA22.out hb23
  have ta21 := cell_later (j := 1) OA22.out hb23
  have OB23 := Lib.hid (blk_later OB2.out hb22)
  have tb20 := cell_later (j := 0) OB23.out hb23
  have tb21 := cell_later (j := 1) OB23.out hb23
  simp at ta20 ta21 tb20 tb21
  obtain ⟨v24, hwz2⟩ : ∃ wz, v23.alloc (.cells #[.string N4, .string D4] 51) = wz := ⟨_, rfl⟩
  have hb24 : Below v23.heap.size v23 v24 := by rw [← hwz2]; exact (Below.refl _ _).alloc (Nat.le_refl _) _
  have OC2 := Lib.hid (heap_last v23 (.cells #[.string N4, .string D4] 51))
  rw [hwz2] at OC2
  have OA24 := Lib.hid (blk_later (blk_later OA22.out hb23) hb24)
  have OB24 := Lib.hid (blk_later (blk_later OB23.out hb23) hb24)
  have HE24 := Lib.hid (HE23.out.below hb24)
  have hk24 : Below v15.heap.size v15 v24 := chain (chain (chain hk21 hk22) hb23) hb24
  go_wp2_with fail
  go_cut [80] (fun p wx => p = .bool false ∧ Below v24.heap.size v24 wx)
  case first => as_aux_lemma =>
    have hwd := HA2.out.wd
    have hwd2 : decide (1 < hi2 - lo2) = false := by simp; omega
    have u0 := cell_later (j := 0) OA24.out (Below.refl _ _)
    have u1 := cell_later (j := 1) OA24.out (Below.refl _ _)
    have u2 := cell_later (j := 0) OB24.out (Below.refl _ _)
    have u3 := cell_later (j := 1) OB24.out (Below.refl _ _)
    have u4 := cell_later (j := 0) OC2.out (Below.refl _ _)
    have u5 := cell_later (j := 1) OC2.out (Below.refl _ _)
    simp at u0 u1 u2 u3 u4 u5
    by_cases hE : lo2 = hi2
    · obtain ⟨rfl, rfl⟩ := HA2.out.eq.1 hE
      subst hE
      go_quiet (fail)
      go_wp2_with fail
      go_meet
      exact ⟨rfl, below_drewN (Below.refl _ _) _⟩
    · have hE2 : ¬ (N4 = N2 ∧ D4 = D2) := fun h => hE (HA2.out.eq.2 h)
      obtain rfl : hi2 = lo2 + 1 := by have := (ok_iff _ _).1 HA2.out.ok; omega
      have hS : lo2 + 1 - lo2 = 1 := by omega
      have hE3 : (lo2 == lo2 + 1) = false := by rw [beq_eq_false_iff_ne]; omega
      have hE4 : decide (lo2 = lo2 + 1) = false := decide_eq_false (by omega)
      clear hwd hwd2
      by_cases hN : N4 = N2
      · subst hN
        have hD := bytes_ne (fun h : D4 = D2 => hE2 ⟨rfl, h⟩)
        clear hE2
        go_quiet (fail)
        go_wp2_with fail
        go_meet
        exact ⟨rfl, below_drewN (Below.refl _ _) _⟩
      · have hN2 := bytes_ne hN
        clear hE2
        go_quiet (fail)
        go_wp2_with fail
        go_meet
        exact ⟨rfl, below_drewN (Below.refl _ _) _⟩
  obtain ⟨rfl, hb25⟩ := hcut
  obtain ⟨v25, hwc2⟩ : ∃ x : World, x = wc := ⟨_, rfl⟩
  rw [← hwc2] at hb25 ⊢
  clear hwc2
  have HE25 := Lib.hid (HE24.out.below hb25)
  have hq2 := chain hq1 (chain hk24 hb25)
  go_wp2_with fail
  have y0 := cell_later (j := 0) OY.out hq2
  have y1 := cell_later (j := 1) OY.out hq2
  simp at y0 y1
  rw [rounds_succ]
  go_wp2_with fail
  refine (draft_any _ a u ha0 ha1 hu0 hu1).mono ?_
  rintro e v31 ⟨lo, hi, rfl, HB, hb31⟩
  have hok := (ok_iff _ _).1 HB.out
  obtain ⟨N5, D5, LF1⟩ := lf_of (i := lo) (by omega) (by omega)
  obtain ⟨N6, D6, LF2⟩ := lf_of (i := hi) (by omega) (by omega)
  have HL1 := Lib.hid LF1
  have HL2 := Lib.hid LF2
  have HK := Lib.hid hok
  clear hok LF1 LF2
  have HE31 := Lib.hid (HE25.out.below hb31)
  have hq3 := chain hq2 hb31
  go_wp2_with fail
  refine (lf_low _ (HE31.out.below ((Below.refl _ _).alloc (Nat.le_refl _) _)) HB.out HL1.out).mono ?_
  rintro e v32 ⟨rfl, hb32⟩
  have OR := Lib.hid (heap_last v31 (.cells #[.int .i64 lo, .int .i64 hi] 23))
  have r0 := cell_later (j := 0) OR.out hb32
  have r1 := cell_later (j := 1) OR.out hb32
  simp at r0 r1
  have hs32 := hb32.size
  simp at hs32
  have ht32 : v31.heap.size < v32.heap.size := by omega
  have hk32 : Below v31.heap.size v31 v32 := chain ((Below.refl _ _).alloc (Nat.le_refl _) _) hb32
  have HE32 := Lib.hid (HE31.out.below hk32)
  have OR2 := Lib.hid (blk_later OR.out hb32)
  go_wp2_with fail
  refine (lf_high _ (HE32.out.below ((Below.refl _ _).alloc (Nat.le_refl _) _)) HB.out HL2.out).mono ?_
  rintro e v33 ⟨rfl, hb33⟩
  have OL := Lib.hid (heap_last v32 (.cells #[.string N5, .string D5] 51))
  have l0 := cell_later (j := 0) OL.out hb33
  have l1 := cell_later (j := 1) OL.out hb33
  simp at l0 l1
  have hs33 := hb33.size
  simp at hs33
  have ht33 : v32.heap.size < v33.heap.size := by omega
  have hk33 : Below v32.heap.size v32 v33 := chain ((Below.refl _ _).alloc (Nat.le_refl _) _) hb33
  have HE33 := Lib.hid (HE32.out.below hk33)
  have OR3 := Lib.hid (blk_later OR2.out hk33)
  go_wp2_with fail
  refine (lf_around _ (HE33.out.below ((Below.refl _ _).alloc (Nat.le_refl _) _)) (by have := HK.out; omega) (by have := HK.out; omega) HL1.out).mono ?_
  rintro e v34 ⟨rfl, hb34⟩
  have OH := Lib.hid (heap_last v33 (.cells #[.string N6, .string D6] 51))
  have g0 := cell_later (j := 0) OH.out hb34
  have g1 := cell_later (j := 1) OH.out hb34
  simp at g0 g1
  have hs34 := hb34.size
  simp at hs34
  have ht34 : v33.heap.size < v34.heap.size := by omega
  have hk34 : Below v33.heap.size v33 v34 := chain ((Below.refl _ _).alloc (Nat.le_refl _) _) hb34
  have HE34 := Lib.hid (HE33.out.below hk34)
  have OR4 := Lib.hid (blk_later OR3.out hk34)
  go_wp2_with fail
  refine (lf_around _ (HE34.out.below ((Below.refl _ _).alloc (Nat.le_refl _) _)) (by have := HK.out; omega) (by have := HK.out; omega) HL2.out).mono ?_
  rintro e v35 ⟨rfl, hb35⟩
  have OP := Lib.hid (heap_last v34 (.cells #[.int .i64 lo, .int .i64 lo] 23))
  have hs35 := hb35.size
  simp at hs35
  have ht35 : v34.heap.size < v35.heap.size := by omega
  have hk35 : Below v34.heap.size v34 v35 := chain ((Below.refl _ _).alloc (Nat.le_refl _) _) hb35
  have OP5 := Lib.hid (blk_later OP.out hb35)
  have OR5 := Lib.hid (blk_later OR4.out hk35)
  obtain ⟨vz, hvz⟩ : ∃ wz, v35.alloc (.cells #[.int .i64 hi, .int .i64 hi] 23) = wz := ⟨_, rfl⟩
  have hbz : Below v35.heap.size v35 vz := by rw [← hvz]; exact (Below.refl _ _).alloc (Nat.le_refl _) _
  have OQ := Lib.hid (heap_last v35 (.cells #[.int .i64 hi, .int .i64 hi] 23))
  rw [hvz] at OQ
  have OPz := Lib.hid (blk_later OP5.out hbz)
  have ORz := Lib.hid (blk_later OR5.out hbz)
  have hqz := chain (chain (chain (chain (chain hq3 hk32) hk33) hk34) hk35) hbz
  go_wp2_with fail
  have hd7 : Below vz.heap.size vz vz.drew := (Below.refl _ _).drew
  have HSf : Hid (∀ w', Below vz.heap.size vz w' → w'.cell? ⟨v31.heap.size, 0, none⟩ = some (.int .i64 lo) ∧ w'.cell? ⟨v31.heap.size, 1, none⟩ = some (.int .i64 hi) ∧ w'.cell? ⟨v34.heap.size, 0, none⟩ = some (.int .i64 lo) ∧ w'.cell? ⟨v34.heap.size, 1, none⟩ = some (.int .i64 lo) ∧ w'.cell? ⟨v35.heap.size, 0, none⟩ = some (.int .i64 hi) ∧ w'.cell? ⟨v35.heap.size, 1, none⟩ = some (.int .i64 hi)) := fun w' h => ⟨(cell_later (j := 0) ORz.out h).trans (by simp), (cell_later (j := 1) ORz.out h).trans (by simp), (cell_later (j := 0) OPz.out h).trans (by simp), (cell_later (j := 1) OPz.out h).trans (by simp), (cell_later (j := 0) OQ.out h).trans (by simp), (cell_later (j := 1) OQ.out h).trans (by simp)⟩
  go_region_held3 (fun w' => w'.cell? ⟨v31.heap.size, 0, none⟩ = some (.int .i64 lo) ∧ w'.cell? ⟨v31.heap.size, 1, none⟩ = some (.int .i64 hi) ∧ w'.cell? ⟨v34.heap.size, 0, none⟩ = some (.int .i64 lo) ∧ w'.cell? ⟨v34.heap.size, 1, none⟩ = some (.int .i64 lo) ∧ w'.cell? ⟨v35.heap.size, 0, none⟩ = some (.int .i64 hi) ∧ w'.cell? ⟨v35.heap.size, 1, none⟩ = some (.int .i64 hi))
    (first | with_reducible exact HSf.out _ hd7 | with_reducible exact HSf.out _ hd8 | with_reducible exact HSf.out _ hd9)
    (first
      | (go_at_call 43; (fail_if_success (have hq := hd8)); (refine (b_any _ lo lo).mono ?_); rintro e x1 ⟨rfl, hx8⟩; have hd8 := chain hd7 hx8)
      | (go_at_call 43; (refine (b_any _ hi hi).mono ?_); rintro e x2 ⟨rfl, hx9⟩; have hd9 := chain hd8 hx9))
  go_wp2
  go_ret
  exact ⟨rfl, chain (chain hW1 hqz) hd9⟩
end Go.Proofs.YtkajibniibjblaaGreatDoor
