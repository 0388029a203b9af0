/-
  the chapter's examples: works.
-/
import Derived.Test.YtkajibniibjblaaGreatDoorWorks1
import Derived.Test.YtkajibniibjblaaGreatDoorBand15
import Derived.Deep.DeepCutAuto
import Derived.KernelRfl
namespace Go.Proofs.YtkajibniibjblaaGreatDoor
open Go.RowKit
set_option maxRecDepth 100000

theorem fits_small {z : Int} (h : z.natAbs < 10 ^ 40) : fits z = true := decide_eq_true (Nat.le_trans (nDigits_lt h (by decide)) (by decide))

theorem wq1 : VQ ⟨#[49]⟩ ⟨#[51]⟩ (mkRat 1 3) := by
  have hn : ((mkRat 1 3) : Rat).num = 1 := by kernel_rfl
  have hd : ((mkRat 1 3) : Rat).den = 3 := by kernel_rfl
  refine ⟨by rw [hn]; exact ⟨decide_eq_true (Nat.le_trans (nDigits_lt (u := 1) (k := 20) (by decide) (by decide)) (by decide)), by show _ = Lib.itoa (1); rw [Lib.itoa, if_neg (by decide)]; rw [show ((1 : Int)).toNat = 1 from rfl]; rw [dec_small (by decide)]; rfl⟩, by rw [hd]; exact ⟨decide_eq_true (Nat.le_trans (nDigits_lt (u := 3) (k := 20) (by decide) (by decide)) (by decide)), by show _ = Lib.itoa (3); rw [Lib.itoa, if_neg (by decide)]; rw [show ((3 : Int)).toNat = 3 from rfl]; rw [dec_small (by decide)]; rfl⟩⟩

theorem wu1 : unitsF (mkRat 1 3) = 333333333333 := by kernel_rfl
theorem wa1 : aroundB (mkRat 1 3) = ⟨333333333333, 333333333334, 0⟩ := by kernel_rfl

theorem wq2 : VQ ⟨#[45, 50]⟩ ⟨#[49]⟩ ((-2 : Int) : Rat) := by
  have hn : (((-2 : Int) : Rat) : Rat).num = -2 := by kernel_rfl
  have hd : (((-2 : Int) : Rat) : Rat).den = 1 := by kernel_rfl
  refine ⟨by rw [hn]; exact ⟨decide_eq_true (Nat.le_trans (nDigits_lt (u := 2) (k := 20) (by decide) (by decide)) (by decide)), by show _ = Lib.itoa (-2); rw [Lib.itoa, if_pos (by decide)]; rw [show ((-2 : Int)).natAbs = 2 from rfl]; rw [dec_small (by decide)]; rfl⟩, by rw [hd]; exact ⟨decide_eq_true (Nat.le_trans (nDigits_lt (u := 1) (k := 20) (by decide) (by decide)) (by decide)), by show _ = Lib.itoa (1); rw [Lib.itoa, if_neg (by decide)]; rw [show ((1 : Int)).toNat = 1 from rfl]; rw [dec_small (by decide)]; rfl⟩⟩

theorem wu2 : unitsF ((-2 : Int) : Rat) = -2000000000000 := by kernel_rfl
theorem wa2 : aroundB ((-2 : Int) : Rat) = ⟨-2000000000000, -2000000000000, 0⟩ := by kernel_rfl

theorem wq3 : VQ ⟨#[49, 48, 48, 48, 48, 48, 49]⟩ ⟨#[49]⟩ ((1000001 : Int) : Rat) := by
  have hn : (((1000001 : Int) : Rat) : Rat).num = 1000001 := by kernel_rfl
  have hd : (((1000001 : Int) : Rat) : Rat).den = 1 := by kernel_rfl
  refine ⟨by rw [hn]; exact ⟨decide_eq_true (Nat.le_trans (nDigits_lt (u := 1000001) (k := 20) (by decide) (by decide)) (by decide)), by show _ = Lib.itoa (1000001); rw [Lib.itoa, if_neg (by decide)]; rw [show ((1000001 : Int)).toNat = 1000001 from rfl]; rw [decDigits_big (by decide), decDigits_big (by decide), decDigits_big (by decide), decDigits_big (by decide), decDigits_big (by decide), decDigits_big (by decide), dec_small (by decide)]; rfl⟩, by rw [hd]; exact ⟨decide_eq_true (Nat.le_trans (nDigits_lt (u := 1) (k := 20) (by decide) (by decide)) (by decide)), by show _ = Lib.itoa (1); rw [Lib.itoa, if_neg (by decide)]; rw [show ((1 : Int)).toNat = 1 from rfl]; rw [dec_small (by decide)]; rfl⟩⟩

theorem wu3 : unitsF ((1000001 : Int) : Rat) = 1000001000000000000 := by kernel_rfl

theorem we4 : oneB 1 0 ⟨1, 0, 0⟩ = ⟨0, 0, 30⟩ := by kernel_rfl

theorem we5 : addB 1 2 3 5 = ⟨4, 7, 0⟩ := by kernel_rfl

theorem we6 : subB 1 2 3 5 = ⟨(-4), (-1), 0⟩ := by kernel_rfl

theorem we7 : mulB 2000000000000 3000000000000 (-1000000000000) 4000000000000 = ⟨(-3000000000000), 12000000000000, 0⟩ := by kernel_rfl

theorem we8 : mulB 1 1 1 1 = ⟨0, 1, 0⟩ := by kernel_rfl

theorem we9 : divB 1000000000000 1000000000000 3000000000000 3000000000000 = ⟨333333333333, 333333333334, 0⟩ := by kernel_rfl

theorem we10 : divB 1000000000000 1000000000000 0 1 = ⟨0, 0, 7⟩ := by kernel_rfl

theorem we11 : sqrB (-2000000000000) 1000000000000 = ⟨0, 4000000000000, 0⟩ := by kernel_rfl

theorem we12 : absB (-2) 1 = ⟨0, 2, 0⟩ := by kernel_rfl

theorem we13 : negB (-2) 1 = ⟨(-1), 2, 0⟩ := by kernel_rfl

theorem we14 : minB 1 5 2 3 = ⟨1, 3, 0⟩ := by kernel_rfl

theorem we15 : hullB 1 2 5 6 = ⟨1, 6, 0⟩ := by kernel_rfl

theorem we16 : meetB 1 2 3 4 = ⟨0, 0, 4⟩ := by kernel_rfl

theorem we17 : cmpN 0 0 0 0 = 0 ∧ cmpE 0 0 0 0 = 0 := ⟨by kernel_rfl, by kernel_rfl⟩

theorem we18 : cmpN 0 1 0 0 = 2 ∧ cmpE 0 1 0 0 = 0 := ⟨by kernel_rfl, by kernel_rfl⟩

theorem we19 : cmpN 1 2 3 4 = (-1) ∧ cmpE 1 2 3 4 = 0 := ⟨by kernel_rfl, by kernel_rfl⟩

theorem we20 : cmpN 1 2 2 3 = 2 ∧ cmpE 1 2 2 3 = 0 := ⟨by kernel_rfl, by kernel_rfl⟩

theorem we21 : sclB 1 1 1 2 = ⟨0, 1, 0⟩ := by kernel_rfl

theorem we22 : sclB 1 1 1 0 = ⟨0, 0, 2⟩ := by kernel_rfl

theorem we23 : oneN 1 2 ((1 + 2) / 2) = 1 ∧ oneE 1 2 = 0 := ⟨by kernel_rfl, by kernel_rfl⟩

theorem we24 : clampB (-5) 5 0 3 = ⟨0, 3, 0⟩ := by kernel_rfl

set_option maxHeartbeats 40000000 in
theorem works_any (w : World) (henv : Env2 w) : Calls Tryz.prog 9 #[] w fun e w' => e = .returned (.bool true) ∧ Below w.heap.size w w' := by
  have HE := Lib.hid henv
  have hc0 : Below w.heap.size w w := Below.refl _ _
  clear henv
  go_enter Tryz.func9, Tryz.ntmps9
  go_upto_region 1 with fail
  go_cut [1] (fun v wx => v = .bool true ∧ Below w.heap.size w wx)
  case first =>
    go_wp2_with fail
    refine (is_any _ 333333333333 333333333334).mono ?_
    rintro e w1 ⟨g1, h1, rfl, hg1, hh1, hb1⟩
    have hc1 := chain hc0 hb1
    go_wp2_with fail
    refine (around_in _ (HE.out.below hc1) _ _ (mkRat 1 3) wq1 (by rw [wu1]; decide) (by rw [wu1]; decide) (by rw [wu1]; exact fits_small (by decide))).mono ?_
    rintro e w2 ⟨rfl, hb2⟩
    have hc2 := chain hc1 hb2
    rw [wa1]
    go_wp2_with fail
    refine (isclo_ok _ _ _ _ _ 333333333333 333333333334 (Lib.hid (blk_later hg1.out hb2)) (Lib.hid (blk_later hh1.out hb2))).mono ?_
    rintro e w3 ⟨rfl, hb3⟩
    have hc3 := chain hc2 hb3
    go_wp2_with fail
    refine (is_any _ (-2000000000000) (-2000000000000)).mono ?_
    rintro e w4 ⟨g2, h2, rfl, hg2, hh2, hb4⟩
    have hc4 := chain hc3 hb4
    go_wp2_with fail
    refine (around_in _ (HE.out.below hc4) _ _ ((-2 : Int) : Rat) wq2 (by rw [wu2]; decide) (by rw [wu2]; decide) (by rw [wu2]; exact fits_small (by decide))).mono ?_
    rintro e w5 ⟨rfl, hb5⟩
    have hc5 := chain hc4 hb5
    rw [wa2]
    go_wp2_with fail
    refine (isclo_ok _ _ _ _ _ (-2000000000000) (-2000000000000) (Lib.hid (blk_later hg2.out hb5)) (Lib.hid (blk_later hh2.out hb5))).mono ?_
    rintro e w6 ⟨rfl, hb6⟩
    have hc6 := chain hc5 hb6
    go_wp2_with fail
    refine (fails_any _ 6).mono ?_
    rintro e w7 ⟨g3, rfl, hg3, hb7⟩
    have hc7 := chain hc6 hb7
    go_wp2_with fail
    refine (around_big _ (HE.out.below hc7) _ _ ((1000001 : Int) : Rat) wq3 (by rw [wu3]; decide) (by rw [wu3]; decide) (by rw [wu3]; exact fits_small (by decide))).mono ?_
    rintro e w8 ⟨rfl, hb8⟩
    have hc8 := chain hc7 hb8
    simp only [BR.bad]
    go_wp2_with fail
    refine (failsclo_ok _ _ _ 6 (Lib.hid (blk_later hg3.out hb8))).mono ?_
    rintro e w9 ⟨rfl, hb9⟩
    have hc9 := chain hc8 hb9
    go_wp2_with fail
    refine (fails_any _ 30).mono ?_
    rintro e w10 ⟨g4, rfl, hg4, hb10⟩
    have hc10 := chain hc9 hb10
    go_wp2_with fail
    refine (of_b _ 1 0).mono ?_
    rintro e w11 ⟨rfl, hb11⟩
    have hc11 := chain hc10 hb11
    rw [we4]
    go_wp2_with fail
    refine (failsclo_ok _ _ _ 30 (Lib.hid (blk_later hg4.out hb11))).mono ?_
    rintro e w12 ⟨rfl, hb12⟩
    have hc12 := chain hc11 hb12
    go_wp2_with fail
    refine (is_any _ 4 7).mono ?_
    rintro e w13 ⟨g5, h5, rfl, hg5, hh5, hb13⟩
    have hc13 := chain hc12 hb13
    go_wp2_with fail
    refine (b_any _ 1 2).mono ?_
    rintro e w14 ⟨rfl, hb14⟩
    have hc14 := chain hc13 hb14
    go_wp2_with fail
    refine (b_any _ 3 5).mono ?_
    rintro e w15 ⟨rfl, hb15⟩
    have hc15 := chain hc14 hb15
    go_wp2_with fail
    refine (add_b _ 1 2 3 5).mono ?_
    rintro e w16 ⟨rfl, hb16⟩
    have hc16 := chain hc15 hb16
    rw [we5]
    go_wp2_with fail
    refine (isclo_ok _ _ _ _ _ 4 7 (Lib.hid (blk_later hg5.out (chain (chain hb14 hb15) hb16))) (Lib.hid (blk_later hh5.out (chain (chain hb14 hb15) hb16)))).mono ?_
    rintro e w17 ⟨rfl, hb17⟩
    have hc17 := chain hc16 hb17
    go_wp2_with fail
    refine (is_any _ (-4) (-1)).mono ?_
    rintro e w18 ⟨g6, h6, rfl, hg6, hh6, hb18⟩
    have hc18 := chain hc17 hb18
    go_wp2_with fail
    refine (b_any _ 1 2).mono ?_
    rintro e w19 ⟨rfl, hb19⟩
    have hc19 := chain hc18 hb19
    go_wp2_with fail
    refine (b_any _ 3 5).mono ?_
    rintro e w20 ⟨rfl, hb20⟩
    have hc20 := chain hc19 hb20
    go_wp2_with fail
    refine (sub_c _ 1 2 3 5).mono ?_
    rintro e w21 ⟨rfl, hb21⟩
    have hc21 := chain hc20 hb21
    rw [we6]
    go_wp2_with fail
    refine (isclo_ok _ _ _ _ _ (-4) (-1) (Lib.hid (blk_later hg6.out (chain (chain hb19 hb20) hb21))) (Lib.hid (blk_later hh6.out (chain (chain hb19 hb20) hb21)))).mono ?_
    rintro e w22 ⟨rfl, hb22⟩
    have hc22 := chain hc21 hb22
    go_wp2_with fail
    refine (is_any _ (-3000000000000) 12000000000000).mono ?_
    rintro e w23 ⟨g7, h7, rfl, hg7, hh7, hb23⟩
    have hc23 := chain hc22 hb23
    go_wp2_with fail
    refine (b_any _ 2000000000000 3000000000000).mono ?_
    rintro e w24 ⟨rfl, hb24⟩
    have hc24 := chain hc23 hb24
    go_wp2_with fail
    refine (b_any _ (-1000000000000) 4000000000000).mono ?_
    rintro e w25 ⟨rfl, hb25⟩
    have hc25 := chain hc24 hb25
    go_wp2_with fail
    refine (mul_b _ 2000000000000 3000000000000 (-1000000000000) 4000000000000).mono ?_
    rintro e w26 ⟨rfl, hb26⟩
    have hc26 := chain hc25 hb26
    rw [we7]
    go_wp2_with fail
    refine (isclo_ok _ _ _ _ _ (-3000000000000) 12000000000000 (Lib.hid (blk_later hg7.out (chain (chain hb24 hb25) hb26))) (Lib.hid (blk_later hh7.out (chain (chain hb24 hb25) hb26)))).mono ?_
    rintro e w27 ⟨rfl, hb27⟩
    have hc27 := chain hc26 hb27
    go_wp2_with fail
    go_meet
    exact ⟨rfl, hc27⟩
  case rest =>
    obtain ⟨rfl, hc28⟩ := hcut
    obtain ⟨w28, rfl⟩ : ∃ x : World, x = wc := ⟨_, rfl⟩
    go_upto_region 2 with fail
    go_cut [1] (fun v wx => v = .bool true ∧ Below w.heap.size w wx)
    case first =>
      go_wp2_with fail
      refine (is_any _ 0 1).mono ?_
      rintro e w29 ⟨g8, h8, rfl, hg8, hh8, hb29⟩
      have hc29 := chain hc28 hb29
      go_wp2_with fail
      refine (b_any _ 1 1).mono ?_
      rintro e w30 ⟨rfl, hb30⟩
      have hc30 := chain hc29 hb30
      go_wp2_with fail
      refine (b_any _ 1 1).mono ?_
      rintro e w31 ⟨rfl, hb31⟩
      have hc31 := chain hc30 hb31
      go_wp2_with fail
      refine (mul_b _ 1 1 1 1).mono ?_
      rintro e w32 ⟨rfl, hb32⟩
      have hc32 := chain hc31 hb32
      rw [we8]
      go_wp2_with fail
      refine (isclo_ok _ _ _ _ _ 0 1 (Lib.hid (blk_later hg8.out (chain (chain hb30 hb31) hb32))) (Lib.hid (blk_later hh8.out (chain (chain hb30 hb31) hb32)))).mono ?_
      rintro e w33 ⟨rfl, hb33⟩
      have hc33 := chain hc32 hb33
      go_wp2_with fail
      refine (is_any _ 333333333333 333333333334).mono ?_
      rintro e w34 ⟨g9, h9, rfl, hg9, hh9, hb34⟩
      have hc34 := chain hc33 hb34
      go_wp2_with fail
      refine (b_any _ 1000000000000 1000000000000).mono ?_
      rintro e w35 ⟨rfl, hb35⟩
      have hc35 := chain hc34 hb35
      go_wp2_with fail
      refine (b_any _ 3000000000000 3000000000000).mono ?_
      rintro e w36 ⟨rfl, hb36⟩
      have hc36 := chain hc35 hb36
      go_wp2_with fail
      refine (div_b _ 1000000000000 1000000000000 3000000000000 3000000000000).mono ?_
      rintro e w37 ⟨rfl, hb37⟩
      have hc37 := chain hc36 hb37
      rw [we9]
      go_wp2_with fail
      refine (isclo_ok _ _ _ _ _ 333333333333 333333333334 (Lib.hid (blk_later hg9.out (chain (chain hb35 hb36) hb37))) (Lib.hid (blk_later hh9.out (chain (chain hb35 hb36) hb37)))).mono ?_
      rintro e w38 ⟨rfl, hb38⟩
      have hc38 := chain hc37 hb38
      go_wp2_with fail
      refine (fails_any _ 7).mono ?_
      rintro e w39 ⟨g10, rfl, hg10, hb39⟩
      have hc39 := chain hc38 hb39
      go_wp2_with fail
      refine (b_any _ 1000000000000 1000000000000).mono ?_
      rintro e w40 ⟨rfl, hb40⟩
      have hc40 := chain hc39 hb40
      go_wp2_with fail
      refine (b_any _ 0 1).mono ?_
      rintro e w41 ⟨rfl, hb41⟩
      have hc41 := chain hc40 hb41
      go_wp2_with fail
      refine (div_b _ 1000000000000 1000000000000 0 1).mono ?_
      rintro e w42 ⟨rfl, hb42⟩
      have hc42 := chain hc41 hb42
      rw [we10]
      go_wp2_with fail
      refine (failsclo_ok _ _ _ 7 (Lib.hid (blk_later hg10.out (chain (chain hb40 hb41) hb42)))).mono ?_
      rintro e w43 ⟨rfl, hb43⟩
      have hc43 := chain hc42 hb43
      go_wp2_with fail
      refine (is_any _ 0 4000000000000).mono ?_
      rintro e w44 ⟨g11, h11, rfl, hg11, hh11, hb44⟩
      have hc44 := chain hc43 hb44
      go_wp2_with fail
      refine (b_any _ (-2000000000000) 1000000000000).mono ?_
      rintro e w45 ⟨rfl, hb45⟩
      have hc45 := chain hc44 hb45
      go_wp2_with fail
      refine (sqr_b _ (-2000000000000) 1000000000000).mono ?_
      rintro e w46 ⟨rfl, hb46⟩
      have hc46 := chain hc45 hb46
      rw [we11]
      go_wp2_with fail
      refine (isclo_ok _ _ _ _ _ 0 4000000000000 (Lib.hid (blk_later hg11.out (chain hb45 hb46))) (Lib.hid (blk_later hh11.out (chain hb45 hb46)))).mono ?_
      rintro e w47 ⟨rfl, hb47⟩
      have hc47 := chain hc46 hb47
      go_wp2_with fail
      refine (is_any _ 0 2).mono ?_
      rintro e w48 ⟨g12, h12, rfl, hg12, hh12, hb48⟩
      have hc48 := chain hc47 hb48
      go_wp2_with fail
      refine (b_any _ (-2) 1).mono ?_
      rintro e w49 ⟨rfl, hb49⟩
      have hc49 := chain hc48 hb49
      go_wp2_with fail
      refine (abs_c _ (-2) 1).mono ?_
      rintro e w50 ⟨rfl, hb50⟩
      have hc50 := chain hc49 hb50
      rw [we12]
      go_wp2_with fail
      refine (isclo_ok _ _ _ _ _ 0 2 (Lib.hid (blk_later hg12.out (chain hb49 hb50))) (Lib.hid (blk_later hh12.out (chain hb49 hb50)))).mono ?_
      rintro e w51 ⟨rfl, hb51⟩
      have hc51 := chain hc50 hb51
      go_wp2_with fail
      refine (is_any _ (-1) 2).mono ?_
      rintro e w52 ⟨g13, h13, rfl, hg13, hh13, hb52⟩
      have hc52 := chain hc51 hb52
      go_wp2_with fail
      refine (b_any _ (-2) 1).mono ?_
      rintro e w53 ⟨rfl, hb53⟩
      have hc53 := chain hc52 hb53
      go_wp2_with fail
      refine (neg_c _ (-2) 1).mono ?_
      rintro e w54 ⟨rfl, hb54⟩
      have hc54 := chain hc53 hb54
      rw [we13]
      go_wp2_with fail
      refine (isclo_ok _ _ _ _ _ (-1) 2 (Lib.hid (blk_later hg13.out (chain hb53 hb54))) (Lib.hid (blk_later hh13.out (chain hb53 hb54)))).mono ?_
      rintro e w55 ⟨rfl, hb55⟩
      have hc55 := chain hc54 hb55
      go_wp2_with fail
      refine (is_any _ 1 3).mono ?_
      rintro e w56 ⟨g14, h14, rfl, hg14, hh14, hb56⟩
      have hc56 := chain hc55 hb56
      go_wp2_with fail
      refine (b_any _ 1 5).mono ?_
      rintro e w57 ⟨rfl, hb57⟩
      have hc57 := chain hc56 hb57
      go_wp2_with fail
      refine (b_any _ 2 3).mono ?_
      rintro e w58 ⟨rfl, hb58⟩
      have hc58 := chain hc57 hb58
      go_wp2_with fail
      refine (min_b _ 1 5 2 3).mono ?_
      rintro e w59 ⟨rfl, hb59⟩
      have hc59 := chain hc58 hb59
      rw [we14]
      go_wp2_with fail
      refine (isclo_ok _ _ _ _ _ 1 3 (Lib.hid (blk_later hg14.out (chain (chain hb57 hb58) hb59))) (Lib.hid (blk_later hh14.out (chain (chain hb57 hb58) hb59)))).mono ?_
      rintro e w60 ⟨rfl, hb60⟩
      have hc60 := chain hc59 hb60
      go_wp2_with fail
      refine (is_any _ 1 6).mono ?_
      rintro e w61 ⟨g15, h15, rfl, hg15, hh15, hb61⟩
      have hc61 := chain hc60 hb61
      go_wp2_with fail
      refine (b_any _ 1 2).mono ?_
      rintro e w62 ⟨rfl, hb62⟩
      have hc62 := chain hc61 hb62
      go_wp2_with fail
      refine (b_any _ 5 6).mono ?_
      rintro e w63 ⟨rfl, hb63⟩
      have hc63 := chain hc62 hb63
      go_wp2_with fail
      refine (hull_b _ 1 2 5 6).mono ?_
      rintro e w64 ⟨rfl, hb64⟩
      have hc64 := chain hc63 hb64
      rw [we15]
      go_wp2_with fail
      refine (isclo_ok _ _ _ _ _ 1 6 (Lib.hid (blk_later hg15.out (chain (chain hb62 hb63) hb64))) (Lib.hid (blk_later hh15.out (chain (chain hb62 hb63) hb64)))).mono ?_
      rintro e w65 ⟨rfl, hb65⟩
      have hc65 := chain hc64 hb65
      go_wp2_with fail
      refine (fails_any _ 4).mono ?_
      rintro e w66 ⟨g16, rfl, hg16, hb66⟩
      have hc66 := chain hc65 hb66
      go_wp2_with fail
      refine (b_any _ 1 2).mono ?_
      rintro e w67 ⟨rfl, hb67⟩
      have hc67 := chain hc66 hb67
      go_wp2_with fail
      refine (b_any _ 3 4).mono ?_
      rintro e w68 ⟨rfl, hb68⟩
      have hc68 := chain hc67 hb68
      go_wp2_with fail
      refine (meet_b _ 1 2 3 4).mono ?_
      rintro e w69 ⟨rfl, hb69⟩
      have hc69 := chain hc68 hb69
      rw [we16]
      go_wp2_with fail
      refine (failsclo_ok _ _ _ 4 (Lib.hid (blk_later hg16.out (chain (chain hb67 hb68) hb69)))).mono ?_
      rintro e w70 ⟨rfl, hb70⟩
      have hc70 := chain hc69 hb70
      go_wp2_with fail
      go_meet
      exact ⟨rfl, hc70⟩
    case rest =>
      obtain ⟨rfl, hc71⟩ := hcut
      obtain ⟨w71, rfl⟩ : ∃ x : World, x = wc := ⟨_, rfl⟩
      go_upto_region 3 with fail
      go_cut [1] (fun v wx => v = .bool true ∧ Below w.heap.size w wx)
      case first =>
        go_wp2_with fail
        refine (says_any _ 0).mono ?_
        rintro e w72 ⟨g17, rfl, hg17, hb72⟩
        have hc72 := chain hc71 hb72
        go_wp2_with fail
        refine (b_any _ 0 0).mono ?_
        rintro e w73 ⟨rfl, hb73⟩
        have hc73 := chain hc72 hb73
        go_wp2_with fail
        refine (sign_b _ 0 0).mono ?_
        rintro e w74 ⟨rfl, hb74⟩
        have hc74 := chain hc73 hb74
        rw [we17.1, we17.2]
        go_wp2_with fail
        refine (saysclo_ok _ _ _ 0 (Lib.hid (blk_later hg17.out (chain hb73 hb74)))).mono ?_
        rintro e w75 ⟨rfl, hb75⟩
        have hc75 := chain hc74 hb75
        go_wp2_with fail
        refine (says_any _ 2).mono ?_
        rintro e w76 ⟨g18, rfl, hg18, hb76⟩
        have hc76 := chain hc75 hb76
        go_wp2_with fail
        refine (b_any _ 0 1).mono ?_
        rintro e w77 ⟨rfl, hb77⟩
        have hc77 := chain hc76 hb77
        go_wp2_with fail
        refine (sign_b _ 0 1).mono ?_
        rintro e w78 ⟨rfl, hb78⟩
        have hc78 := chain hc77 hb78
        rw [we18.1, we18.2]
        go_wp2_with fail
        refine (saysclo_ok _ _ _ 2 (Lib.hid (blk_later hg18.out (chain hb77 hb78)))).mono ?_
        rintro e w79 ⟨rfl, hb79⟩
        have hc79 := chain hc78 hb79
        go_wp2_with fail
        refine (says_any _ (-1)).mono ?_
        rintro e w80 ⟨g19, rfl, hg19, hb80⟩
        have hc80 := chain hc79 hb80
        go_wp2_with fail
        refine (b_any _ 1 2).mono ?_
        rintro e w81 ⟨rfl, hb81⟩
        have hc81 := chain hc80 hb81
        go_wp2_with fail
        refine (b_any _ 3 4).mono ?_
        rintro e w82 ⟨rfl, hb82⟩
        have hc82 := chain hc81 hb82
        go_wp2_with fail
        refine (cmp_b _ 1 2 3 4).mono ?_
        rintro e w83 ⟨rfl, hb83⟩
        have hc83 := chain hc82 hb83
        rw [we19.1, we19.2]
        go_wp2_with fail
        refine (saysclo_ok _ _ _ (-1) (Lib.hid (blk_later hg19.out (chain (chain hb81 hb82) hb83)))).mono ?_
        rintro e w84 ⟨rfl, hb84⟩
        have hc84 := chain hc83 hb84
        go_wp2_with fail
        refine (says_any _ 2).mono ?_
        rintro e w85 ⟨g20, rfl, hg20, hb85⟩
        have hc85 := chain hc84 hb85
        go_wp2_with fail
        refine (b_any _ 1 2).mono ?_
        rintro e w86 ⟨rfl, hb86⟩
        have hc86 := chain hc85 hb86
        go_wp2_with fail
        refine (b_any _ 2 3).mono ?_
        rintro e w87 ⟨rfl, hb87⟩
        have hc87 := chain hc86 hb87
        go_wp2_with fail
        refine (cmp_b _ 1 2 2 3).mono ?_
        rintro e w88 ⟨rfl, hb88⟩
        have hc88 := chain hc87 hb88
        rw [we20.1, we20.2]
        go_wp2_with fail
        refine (saysclo_ok _ _ _ 2 (Lib.hid (blk_later hg20.out (chain (chain hb86 hb87) hb88)))).mono ?_
        rintro e w89 ⟨rfl, hb89⟩
        have hc89 := chain hc88 hb89
        go_wp2_with fail
        go_meet
        exact ⟨rfl, hc89⟩
      case rest =>
        obtain ⟨rfl, hc90⟩ := hcut
        obtain ⟨w90, rfl⟩ : ∃ x : World, x = wc := ⟨_, rfl⟩
        go_upto_region 4 with fail
        go_cut [0] (fun v wx => v = .bool true ∧ Below w.heap.size w wx)
        case first =>
          go_wp2_with fail
          refine (is_any _ 0 1).mono ?_
          rintro e w91 ⟨g21, h21, rfl, hg21, hh21, hb91⟩
          have hc91 := chain hc90 hb91
          go_wp2_with fail
          refine (b_any _ 1 1).mono ?_
          rintro e w92 ⟨rfl, hb92⟩
          have hc92 := chain hc91 hb92
          go_wp2_with fail
          refine (scl_c _ 1 1 1 2).mono ?_
          rintro e w93 ⟨rfl, hb93⟩
          have hc93 := chain hc92 hb93
          rw [we21]
          go_wp2_with fail
          refine (isclo_ok _ _ _ _ _ 0 1 (Lib.hid (blk_later hg21.out (chain hb92 hb93))) (Lib.hid (blk_later hh21.out (chain hb92 hb93)))).mono ?_
          rintro e w94 ⟨rfl, hb94⟩
          have hc94 := chain hc93 hb94
          go_wp2_with fail
          refine (fails_any _ 2).mono ?_
          rintro e w95 ⟨g22, rfl, hg22, hb95⟩
          have hc95 := chain hc94 hb95
          go_wp2_with fail
          refine (b_any _ 1 1).mono ?_
          rintro e w96 ⟨rfl, hb96⟩
          have hc96 := chain hc95 hb96
          go_wp2_with fail
          refine (scl_c _ 1 1 1 0).mono ?_
          rintro e w97 ⟨rfl, hb97⟩
          have hc97 := chain hc96 hb97
          rw [we22]
          go_wp2_with fail
          refine (failsclo_ok _ _ _ 2 (Lib.hid (blk_later hg22.out (chain hb96 hb97)))).mono ?_
          rintro e w98 ⟨rfl, hb98⟩
          have hc98 := chain hc97 hb98
          go_wp2_with fail
          refine (says_any _ 1).mono ?_
          rintro e w99 ⟨g23, rfl, hg23, hb99⟩
          have hc99 := chain hc98 hb99
          go_wp2_with fail
          refine (b_any _ 1 2).mono ?_
          rintro e w100 ⟨rfl, hb100⟩
          have hc100 := chain hc99 hb100
          go_wp2_with fail
          refine (mid_b _ 1 2).mono ?_
          rintro e w101 ⟨rfl, hb101⟩
          have hc101 := chain hc100 hb101
          rw [we23.1, we23.2]
          go_wp2_with fail
          refine (saysclo_ok _ _ _ 1 (Lib.hid (blk_later hg23.out (chain hb100 hb101)))).mono ?_
          rintro e w102 ⟨rfl, hb102⟩
          have hc102 := chain hc101 hb102
          go_wp2_with fail
          refine (is_any _ 0 3).mono ?_
          rintro e w103 ⟨g24, h24, rfl, hg24, hh24, hb103⟩
          have hc103 := chain hc102 hb103
          go_wp2_with fail
          refine (b_any _ (-5) 5).mono ?_
          rintro e w104 ⟨rfl, hb104⟩
          have hc104 := chain hc103 hb104
          go_wp2_with fail
          refine (clamp_c _ (-5) 5 0 3).mono ?_
          rintro e w105 ⟨rfl, hb105⟩
          have hc105 := chain hc104 hb105
          rw [we24]
          go_wp2_with fail
          refine (isclo_ok _ _ _ _ _ 0 3 (Lib.hid (blk_later hg24.out (chain hb104 hb105))) (Lib.hid (blk_later hh24.out (chain hb104 hb105)))).mono ?_
          rintro e w106 ⟨rfl, hb106⟩
          have hc106 := chain hc105 hb106
          go_wp2_with fail
          go_meet
          exact ⟨rfl, hc106⟩
        case rest =>
          obtain ⟨rfl, hc107⟩ := hcut
          obtain ⟨w107, rfl⟩ : ∃ x : World, x = wc := ⟨_, rfl⟩
          go_wp2
          go_ret
          exact ⟨rfl, hc107⟩

end Go.Proofs.YtkajibniibjblaaGreatDoor
