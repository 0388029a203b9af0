/-
  whole.Mass: Over, the long division itself.
-/
import Derived.Test.YtkajibniibjblaaGreatDoorOver
import Derived.Deep.LoopGhost
namespace Go.Proofs.YtkajibniibjblaaGreatDoor
open Go.RowKit
set_option maxRecDepth 100000

/-- The estimate of a digit, and what is taken of it. -/
def GuessS (v : Value) (R D : Int) (i : Nat) : Prop :=
  ∃ gs gm : Int, v = .int .u64 gs ∧ ((gs ≤ 999999999999999999 ∧ gm = gs) ∨ (999999999999999999 < gs ∧ gm = 999999999999999999)) ∧ 0 ≤ gs ∧ gs ≤ 18446744073709551615 ∧ Hid (R < (gm + 1) * (D * 1000000000000000000 ^ i))

def PartS (w : World) (v : Value) (L x : Nat) (w' : World) : Prop := ∃ A l c, v = .slice A l c ∧ Ms w' L A l c x ∧ Below w.heap.size w w' ∧ ∀ ad, A = some ad → w.heap.size ≤ ad.block
theorem shifted (b F gn i : Nat) (ps : List Int) (h : Nm ps (b * F * gn)) : Dig (List.replicate i 0 ++ ps) ∧ val (List.replicate i 0 ++ ps) = ((gn * (b * F * 1000000000000000000 ^ i) : Nat) : Int) := by
  refine ⟨Dig.append.2 ⟨Dig.replicate i, h.dig⟩, ?_⟩
  rw [val_append, val_replicate, h.val_, List.length_replicate]
  simp only [Int.natCast_mul, Int.natCast_pow]
  grind

set_option maxHeartbeats 1000000 in
theorem over_long (w : World) {La Lb : Nat} (A B : Option Addr) (n l c d : Nat) (a b : Nat) (ha : Ms w La A n c a) (hb : Ms w Lb B l d b) (h : b ≤ a) (hm : 2 ≤ l) (hL : La + Lb ≤ 100000000000) :
    Calls Tryz.prog 171 #[.slice A n c, .slice B l d] w (OverR La Lb a b A n w) := by
  have ha' := ha
  have hb' := hb
  obtain ⟨hla, xs, hx, nx⟩ := ha
  obtain ⟨hlb, ys, hy, ny⟩ := hb
  have hl1 : ((l : Int) == 1) = false := by simp; omega
  obtain ⟨v, lo, hyv, v0, v1, hbv, lo0, lo1⟩ := ny.top (n := l - 1) (by rw [hy.len]; omega)
  have hmn : l ≤ n := hb'.len_le ha' h
  obtain ⟨F, hF⟩ : ∃ F : Nat, 1000000000000000000 / (v + 1) = (F : Int) := Int.eq_ofNat_of_zero_le (Int.ediv_nonneg (by omega) (by omega))
  obtain ⟨F0, F1, hDlt⟩ := scale_lt hbv lo1 rfl v0 v1
  rw [hF] at F0 F1 hDlt
  have F0' : 0 < F := by omega
  have F1' : F < 1000000000000000000 := by omega
  clear F0 F1
  have HB : Hid _ := hbv
  have HD : Hid _ := hDlt
  have HY : Hid _ := hyv
  clear hbv hDlt hyv lo1 lo0
  go_enter Tryz.func171, Tryz.ntmps171
  go_upto_region 8 with (first
    | (go_at_call 185; go_must (refine (cmp_any _ _ _ _ _ _ _ _ _ ha' hb').mono ?_; rintro e w1 ⟨r, rfl, hr, hbel1⟩; have hr0 : ¬ r < 0 := fun hh => absurd (hr.1.1 hh) (by omega); obtain ⟨b1, o1, y', rfl, hyk, hb1, hc1⟩ := (hy.below hbel1).get (j := l - 1) (by omega); have hyy : y' = v := (by have := HY.out; rw [this] at hyk; injection hyk with hyk; exact hyk.symm); subst hyy; clear hyk))
    | (go_at_call 174; go_must (refine (one_any _ F (by omega)).mono ?_; rintro e w2 ⟨Af, lf, cf, rfl, hf, hbel2, _⟩)))
  have hb2 := (hb'.below hbel1).below hbel2
  go_upto_region 9 with (go_at_call 135; go_must (refine (times_any _ _ _ _ _ _ _ _ _ hb2 hf (by omega)).mono ?_; rintro e w3 ⟨AD, lD, cD, rfl, hD, hbel3, _⟩))
  have ha3 := ((ha'.below hbel1).below hbel2).below hbel3
  have hf3 := hf.below hbel3
  go_upto_region 10 with (go_at_call 135; go_must (refine (times_any _ _ _ _ _ _ _ _ _ ha3 hf3 (by omega)).mono ?_; rintro e w4 ⟨AR, lR, cR, rfl, hR, hbel4, _⟩))
  have hD4 := hD.below hbel4
  have hf4 := hf3.below hbel4
  have hb04 : Below w.heap.size w w4 := ((hbel1.trans (hbel2.mono hbel1.size)).trans (hbel3.mono (Nat.le_trans hbel1.size hbel2.size))).trans (hbel4.mono (Nat.le_trans (Nat.le_trans hbel1.size hbel2.size) hbel3.size))
  clear hbel1 hbel2 hbel3 hbel4 ha3 hf3 hb2 hf hD hc1 hF hr
  -- the scaled divisor
  have hD' := hD4
  obtain ⟨hlD, ds, hxD, nD⟩ := hD'
  have hDl : lD = l := by
    have hge : l ≤ lD := hb'.len_le hD4 (Nat.le_mul_of_pos_right b F0')
    have hne : ds ≠ [] := by rintro rfl; have := hxD.len; simp at this; omega
    have h1 := nD.low hne
    have h2 := HD.out
    rw [Int.natCast_mul] at h1
    have h3 := pow_lt_of (Int.lt_of_le_of_lt h1 h2)
    rw [hxD.len] at h3
    omega
  subst hDl
  have hb0 : 0 < b := by
    rcases Nat.eq_zero_or_pos b with e | e
    · have h1 := ny.zero_iff.1 e
      have h2 := hy.len
      rw [h1] at h2
      simp at h2
      omega
    · exact e
  obtain ⟨dt, dlo, hdt, dt0, dt1, hdv, dlo0, dlo1⟩ := nD.top (n := lD - 1) (by rw [hxD.len]; omega)
  have HDT : Hid _ := hdt
  have HDV : Hid ((1000000000000000000 : Int) ^ (lD - 1) * dt ≤ (b : Int) * F) := by
    show _ ≤ _
    rw [← Int.natCast_mul]
    omega
  clear hdt hdv dlo0 dlo1
  obtain ⟨N, hN⟩ : ∃ N, N = n - lD + 1 := ⟨_, rfl⟩
  have HN : Hid _ := hN
  have hN1 : n + 1 ≤ N + lD := by omega
  have hN2 : N + lD ≤ n + 1 := by omega
  clear hN
  go_wp2_with (at_make; refine wpList_make _ rfl _ _ 114 rfl 143 .u64 8 Tryz.underlying114 infoU64 N (by show Value.int .i64 _ = _; exact congrArg _ (by omega)) (by show Value.int .i64 _ = _; exact congrArg _ (by omega)) (by omega) (by omega) ?_; intro g w5 hown5 _ hbel5 hg5 _)
  have HS : Hid _ := OverI.start2 (N := N) nx hx.len ny hy.len (by omega) F0' (by omega)
  have HAp : Hid (∀ ad, AR = some ad → 0 < lR → ad.block ≠ g) := fun ad e e2 => by have := hR.old ad e e2; omega
  go_loopw [11, 12] (fun rv iv wr => ∃ (k : Nat) (Ar : Option Addr) (lr cr R : Nat) (qs : List Int), k ≤ N ∧ iv = .int .i64 ((k : Int) - 1) ∧ rv = .slice Ar lr cr ∧ Ms wr (La + 1) Ar lr cr R ∧ Hid (∀ ad, Ar = some ad → 0 < lr → ad.block ≠ g) ∧ Own wr .u64 143 g qs ∧ Hid (OverI N ((a : Int) * F) ((b : Int) * F) k R qs) ∧ Below w4.heap.size w4 wr) (fun _ iv _ => (intOf iv + 1).toNat)
  case atStart => exact ⟨N, AR, lR, cR, a * F, _, Nat.le_refl _, by go_num, rfl, hR.below hbel5, HAp, hown5, HS, hbel5⟩
  case round =>
    clear hown5 HS HAp hR hbel5
    obtain ⟨wo, rfl⟩ : ∃ wo : World, wo = wr := ⟨_, rfl⟩
    obtain ⟨k, Ar, lr, cr, R, qs, hk, hiv, rfl, hR, hAp, hown, hI, hbw⟩ := hrel
    by_cases hk0 : 0 < k
    · obtain ⟨i, rfl⟩ : ∃ i, k = i + 1 := ⟨k - 1, by omega⟩
      rw [show (((i + 1 : Nat) : Int) - 1) = (i : Int) by omega] at hiv
      subst hiv
      have hlr := hR.1
      by_cases hsk : lr < i + lD
      · -- too short: the digit is 0
        have HN2 : Hid (OverI N ((a : Int) * F) ((b : Int) * F) i R qs) := by
          obtain ⟨_, rs, hxr, nr⟩ := hR
          exact hI.out.skip2 nr hxr.len ny hy.len (by omega) F0' hsk
        clear hI
        go_wp2
        go_roundw
        case rel => exact ⟨i, Ar, lr, cr, R, qs, by omega, rfl, rfl, hR, hAp, hown, HN2, hbw⟩
        case measure => simp [intOf]
      · have hR' := hR
        obtain ⟨_, rs, hxr, nr⟩ := hR'
        obtain ⟨b3, o3, sn, rfl, hsn, hb3, hc3⟩ := hxr.get (j := i + lD - 1) (by omega)
        have sn0 := (nr.dig.get hsn).1
        have sn1 := (nr.dig.get hsn).2
        obtain ⟨b4, o4, dt', rfl, hdt', hb4, hc4⟩ := (hxD.below hbw).get (j := lD - 1) (by omega)
        obtain rfl : dt' = dt := by have := HDT.out; rw [this] at hdt'; injection hdt' with hdt'; exact hdt'.symm
        have hRlt := hI.out.bound HD.out
        have htop := top_two (m := lD - 1) (i := i) nr hRlt (by rw [show i + (lD - 1) = i + lD - 1 by omega]; exact hsn)
        rw [hxr.len] at htop
        have HTop : Hid _ := htop
        clear htop hsn hdt' hRlt
        go_upto_if 78 with fail
        go_cut [13] (fun s13 wx => (∃ tp : Int, s13 = .int .u64 tp ∧ 0 ≤ tp ∧ tp < 1000000000000000000 ∧ Hid ((R : Int) < (tp * 1000000000000000000 + sn + 1) * 1000000000000000000 ^ (lD - 1 + i))) ∧ wo = wx)
        case first =>
          rcases HTop.out with ⟨e, ht⟩ | ⟨e, tp, htp, tp0, tp1, ht⟩
          · have hle : lr ≤ i + lD := by omega
            have HT : Hid _ := ht
            clear ht e
            go_wp2
            go_meet
            case rel => exact ⟨⟨0, rfl, by omega, by omega, HT⟩, rfl⟩
          · have hle : i + lD < lr := by omega
            have hc5 := hxr.at_ _ _ htp
            obtain ⟨b5, o5, e5, _, hc5⟩ := hc5
            injection e5 with e5
            injection e5 with e5 e6
            subst e5 e6
            rw [show i + (lD - 1 + 1) = i + lD by omega] at hc5
            have HT : Hid _ := ht
            clear ht e htp
            go_wp2
            go_meet
            case rel => exact ⟨⟨tp, rfl, tp0, tp1, HT⟩, rfl⟩
        case rest =>
          clear HTop
          obtain ⟨⟨tp, rfl, tp0, tp1, HT⟩, rfl⟩ := hcut
          go_upto_if 91 with fail
          have HI2 : Hid _ := hI.out.nine
          go_cut [14] (fun s14 wx => GuessS s14 (R : Int) ((b : Int) * F) i ∧ Below wo.heap.size wo wx)
          case first =>
            by_cases htd : tp < dt'
            · go_wp2_with (first
                | (go_at_call 117; go_must (refine (mul64_any tp 1000000000000000000 (by omega) (by omega) (by omega) (by omega) _).mono ?_; rintro e w' ⟨hi, lo, rfl, hm1, hi0, lo0, lo1, rfl⟩; obtain ⟨s, o, hadd, s0, s1, p0, p1, hs⟩ := add64_ex lo sn lo0 lo1 (by omega) (by omega); have hlt : hi + o < dt' := by_hi hm1.out hs.out sn1 tp0 htd (by omega) s0; have htot : Hid _ := by_tot hm1.out hs.out))
                | (go_at_call 119; go_must (refine (div64_any (hi + o) s dt' _ (by omega) hlt (by omega) s0 s1).mono ?_; rintro e w6 ⟨q, rq, rfl, hq, q0, q1, rq0, rq1, hbel6⟩)))
              go_meet
              case rel =>
                have hgu := guess_up (n := lD - 1) (i := i) HT.out HDV.out (hq.out.trans htot.out) rq1 q0
                rcases Int.lt_or_le 999999999999999999 q with hq2 | hq2
                · exact ⟨⟨q, 999999999999999999, rfl, .inr ⟨hq2, rfl⟩, q0, q1, HI2⟩, hbel6⟩
                · exact ⟨⟨q, q, rfl, .inl ⟨hq2, rfl⟩, q0, q1, hgu⟩, hbel6⟩
            · go_wp2
              go_meet
              case rel => exact ⟨⟨999999999999999999, 999999999999999999, rfl, .inl ⟨by omega, rfl⟩, by omega, by omega, HI2⟩, Below.refl _ _⟩
          case rest =>
            clear HI2 HT tp0 tp1 sn0 sn1 hc3 hc4
            obtain ⟨⟨gs, gm, rfl, hgm, gs0, gs1, HG⟩, hbel6⟩ := hcut
            have hR6 := hR.below hbel6
            have hown6 := hown.after hbel6
            have hD6 := (hD4.below hbw).below hbel6
            have hb06 : Below w4.heap.size w4 wc := hbw.trans (hbel6.mono hbw.size)
            clear hR hown hbel6
            obtain ⟨w6, rfl⟩ : ∃ w6 : World, w6 = wc := ⟨_, rfl⟩
            have gm0 : 0 ≤ gm := by omega
            have gm1 : gm ≤ 999999999999999999 := by omega
            obtain ⟨gn, rfl⟩ := Int.eq_ofNat_of_zero_le gm0
            have gn1 : gn < 1000000000000000000 := by omega
            have HPd : Hid (∀ ps : List Int, Nm ps (b * F * gn) → Dig (List.replicate i 0 ++ ps) ∧ val (List.replicate i 0 ++ ps) = ((gn * (b * F * 1000000000000000000 ^ i) : Nat) : Int)) := shifted b F gn i
            have hmk := fun W => run_make_row' (P := Tryz.prog) 114 143 (.int .u64 0) 8 Tryz.underlying114 infoU64 rfl .i64 .i64 i (by omega) (by omega) W
            go_upto_region 23 with fail
            go_cut [18] (fun s18 wx => PartS w6 s18 (La + Lb + 3) (gn * (b * F * 1000000000000000000 ^ i)) wx)
            case first =>
              go_region_law (first
                | (refine step_append rfl (.tmp 123) (.tmp 128) 114 rfl 143 .u64 8 Tryz.underlying114 infoU64 w6.heap.size _ i i (List.replicate i 0) (by simp [Act.eval]; rfl) (by first | exact hO2 | exact OwnS.made' wB .u64 143 _ i hc2.size (by omega)) A2 l2 c2 ps (by simp [Act.eval]) (by first | exact hxp | exact hxp.below ((Below.refl _ _).alloc (Nat.le_refl _) _)) (by omega) (by omega) (by first | exact hc2.size | exact Nat.le_trans hc2.size (by simp)) ?_; intro A3 c3 w7 hown7 hbel7 _)
                | (go_simp; go_at_call 174; refine (one_i _ _ gn (by omega) gn1).mono ?_; rintro e wA ⟨A1, l1, c1, rfl, h1, hbA, _⟩; have hc1 : Below w6.heap.size w6 wA := (by first | exact chain_drew (Below.refl _ _) hbA | exact chain_drew ((Below.refl _ _).alloc (Nat.le_refl _) _) hbA); (first | have hO := (OwnS.made' w6 .u64 143 w6.heap.size i (Nat.le_refl _) (by omega)).after (undrew hbA) | skip))
                | (go_simp; go_at_call 135; refine (times_any _ _ _ _ _ _ _ _ _ (by first | exact hD6.below hc1 | exact (hD6.below hc1).below ((Below.refl _ _).alloc (Nat.le_refl _) _)) (by first | exact h1 | exact h1.below ((Below.refl _ _).alloc (Nat.le_refl _) _)) (by omega)).mono ?_; rintro e wB ⟨A2, l2, c2, rfl, ⟨hl2, ps, hxp, nP⟩, hbB, _⟩; have hc2 : Below w6.heap.size w6 wB := (by first | exact chain hc1 hbB | exact chain (hc1.alloc hc1.size _) hbB); (first | have hO2 := hO.after hbB | have hO2 := (OwnS.made' wA .u64 143 w6.heap.size i hc1.size (by omega)).after hbB | skip))
                | (go_simp; go_at_call 170; refine (trim_ms _ _ _ _ _ hown7.rd (HPd.out ps nP).1 (HPd.out ps nP).2).mono ?_; rintro e w8 ⟨l8, rfl, hms, rfl⟩))
              all_goals
                go_wp2_with fail
                go_meet
                exact ⟨A3, l8, c3, rfl, hms.mono (by omega), by first | exact hc2.trans hbel7 | exact (hc2.alloc hc2.size _).trans hbel7, hown7.fresh⟩
            case rest =>
              obtain ⟨A8, l8, c8, rfl, hP8, hb68, hfr8⟩ := hcut
              clear hmk HPd hD6
              have hR8 := hR6.below hb68
              have hown8 := hown6.after hb68
              have hb48 : Below w4.heap.size w4 wc := chain hb06 hb68
              have hg6 := hown6.lt
              have HAp8 : Hid (∀ ad, A8 = some ad → 0 < l8 → ad.block ≠ g) := fun ad e _ => by have := hfr8 ad e; omega
              clear hR6 hown6 hb06 hb68 hfr8
              obtain ⟨w8, rfl⟩ : ∃ w8 : World, w8 = wc := ⟨_, rfl⟩
              have hqi : i < qs.length := by rw [hI.out.len]; omega
              have HQ : Hid (qs[i]? = some qs[i]) := List.getElem?_eq_getElem hqi
              generalize qs[i] = old at HQ
              have hcq := hown8.cell HQ.out
              have hfq := hown8.frozen i
              have HGn : Hid _ := guess_nat HG.out
              clear HG
              go_upto_region 24 with fail
              go_cut [] (fun wx => wx = w8.setCell ⟨g, i, none⟩ (.int .u64 (gn : Int)))
              case first =>
                have HMin : Hid (min gs 999999999999999999 = (gn : Int)) := by show _ = _; omega
                go_wp2
                go_meet
                case rel => rw [HMin.out]
              case rest =>
                subst hcut
                clear hcq hfq hgm gs0 gs1 gm0 gm1
                have hR9 := hR8.setCell (j := i) (u := .int .u64 (gn : Int)) hAp.out
                have hP9 := hP8.setCell (j := i) (u := .int .u64 (gn : Int)) HAp8.out
                have hO9 := hown8.set_ i (gn : Int)
                have hb49 : Below w4.heap.size w4 (w8.setCell ⟨g, i, none⟩ (.int .u64 (gn : Int))) := hb48.setCell hg5 _
                have hg9 : g < (w8.setCell ⟨g, i, none⟩ (.int .u64 (gn : Int))).heap.size := hO9.lt
                clear hR8 hP8 hown8 hb48 hg6
                generalize w8.setCell ⟨g, i, none⟩ (.int .u64 (gn : Int)) = w9 at *
                go_wp2_with fail
                go_loopg [18] gn (fun q pv wx => ∃ A l c, pv = .slice A l c ∧ q < 1000000000000000000 ∧ Ms wx (La + Lb + 3) A l c (q * (b * F * 1000000000000000000 ^ i)) ∧ Hid (∀ ad, A = some ad → 0 < l → ad.block ≠ g) ∧ Own wx .u64 143 g (qs.set i (q : Int)) ∧ Hid (R < (q + 1) * (b * F * 1000000000000000000 ^ i)) ∧ Ms wx (La + 1) (some ⟨b3, o3, none⟩) lr cr R ∧ Below w4.heap.size w4 wx)
                case atStart => exact ⟨A8, l8, c8, rfl, gn1, hP9, HAp8, hO9, HGn, hR9, hb49⟩
                case round =>
                  clear hR9 hP9 hO9 hb49 hg9 HAp8 HGn gn1
                  obtain ⟨q, rfl⟩ : ∃ q : Nat, q = gk := ⟨_, rfl⟩
                  obtain ⟨A9, l9, c9, rfl, hq1, hP, hApP, hO, HG, hRx, hb4x⟩ := hrel
                  have hgx := hO.lt
                  have HQ2 : Hid ((qs.set i (q : Int))[i]? = some (q : Int)) := by show _ = _; rw [List.getElem?_set]; simp [hqi]
                  have hcx := hO.cell HQ2.out
                  have hfx := hO.frozen i
                  by_cases hcmp : R < q * (b * F * 1000000000000000000 ^ i)
                  · have hq0 : 0 < q := by
                      refine Nat.pos_of_ne_zero fun e => ?_
                      subst e
                      simp at hcmp
                    have HC : Hid _ := hcmp
                    clear hcmp
                    go_wp2_with (first
                      | (go_at_call 185; go_must (refine (cmp_any _ _ _ _ _ _ _ _ _ hRx hP).mono ?_; rintro e wc1 ⟨r1, rfl, hr1, hbC⟩; have hneg : r1 < 0 := hr1.1.2 HC.out; have hcy := (hbC.cell (p := ⟨g, i, none⟩) hgx).trans hcx; have hfy := (hbC.frozen (p := ⟨g, i, none⟩) hgx).trans hfx))
                      | (at_make; refine wpList_make _ rfl _ _ 114 rfl 143 .u64 8 Tryz.underlying114 infoU64 i rfl rfl (by omega) (by omega) ?_; intro g2 wm _ hownm hbm hgm2 hg2lt)
                      | (at_builtin; refine wpList_append rfl (.tmp 148) (.tmp 149) 114 rfl 143 .u64 8 Tryz.underlying114 infoU64 g2 _ i i (List.replicate i 0) rfl hownm (some ⟨b4, o4, none⟩) lD cD ds rfl (hxD.below (chain ((chain hb4x hbC).setCell hg5 _) hbm)) (by omega) (by omega) (Nat.le_of_lt hg2lt) ?_; intro A5 c5 wa hown5 hbel5 _)
                      | (go_at_call 175; go_must (have hBX := hbm.trans (hbel5.mono hgm2); have hPX := ((hP.below hbC).setCell (j := i) (u := .int .u64 ((q : Int) - 1)) hApP.out).below hBX; have hDs : Ms wa (La + Lb + 3) A5 (i + lD) c5 (b * F * 1000000000000000000 ^ i) := ⟨by omega, _, hown5.rd, nD.shift (Nat.mul_pos hb0 F0') i⟩; refine (minus_any _ _ _ _ _ _ _ _ _ hPX hDs (Nat.le_mul_of_pos_left _ hq0) (by omega)).mono ?_; rintro e wz ⟨Az, lz, cz, rfl, hz, hbz, hfz⟩)))
                    go_roundg (q - 1)
                    case measure => omega
                    case rel =>
                      have hOz := (((hO.after hbC).set_ i ((q : Int) - 1)).after hBX).after hbz
                      rw [List.set_set, show ((q : Int) - 1) = ((q - 1 : Nat) : Int) by omega] at hOz
                      have hs1 := hbC.size
                      have hs2 := hBX.size
                      have hs3 : (wc1.setCell ⟨g, i, none⟩ (.int .u64 ((q : Int) - 1))).heap.size = wc1.heap.size := by simp [World.setCell]
                      refine ⟨Az, lz, cz, rfl, by omega, ?_, fun ad e _ => by have := hfz ad e; omega, hOz, ?_, (((hRx.below hbC).setCell hAp.out).below hBX).below hbz, chain (chain ((chain hb4x hbC).setCell hg5 _) hBX) hbz⟩
                      · rw [Nat.sub_mul, Nat.one_mul]; exact hz
                      · show _ < _
                        rw [show q - 1 + 1 = q by omega]; exact HC.out
                  · have HC : Hid (q * (b * F * 1000000000000000000 ^ i) ≤ R) := Nat.le_of_not_lt hcmp
                    clear hcmp
                    go_wp2_with (first
                      | (go_at_call 185; go_must (refine (cmp_any _ _ _ _ _ _ _ _ _ hRx hP).mono ?_; rintro e wc1 ⟨r1, rfl, hr1, hbC⟩; have hneg : ¬ r1 < 0 := fun hh => absurd (hr1.1.1 hh) (Nat.not_lt_of_le HC.out)))
                      | (go_at_call 175; go_must (refine (minus_any _ _ _ _ _ _ _ _ _ (hRx.below hbC) (hP.below hbC) HC.out (by omega)).mono ?_; rintro e wz ⟨Az, lz, cz, rfl, hz, hbz, hfz⟩)))
                    go_roundw
                    case rel =>
                      have hs1 := hbC.size
                      exact ⟨i, Az, lz, cz, R - q * (b * F * 1000000000000000000 ^ i), _, by omega, rfl, rfl, hz, fun ad e _ => by have := hfz ad e; omega, (hO.after hbC).after hbz, hI.out.step2 HQ.out hq1 HC.out HG.out, chain (chain hb4x hbC) hbz⟩
                    case measure => simp [intOf]
    · obtain rfl : k = 0 := by omega
      subst hiv
      have hdone := hI.out.done (by omega) hb0
      have HV : Hid _ := hdone.1
      obtain ⟨mm, hRm, hmm⟩ := hdone.2
      have HR : Hid (R = mm * F) := by
        show _ = _
        rw [Int.toNat_natCast] at hRm
        omega
      have HM : Hid _ := hmm
      have hdig := hI.out.dig
      have hRq := hown.rd hI.out.len (Nat.le_refl _) (by omega)
      have hb1' := hb'.below (hb04.trans (hbw.mono hb04.size))
      have hbT : Below w.heap.size w wo := hb04.trans (hbw.mono hb04.size)
      obtain ⟨hlf, fs, hxf, nf⟩ := hf4.below hbw
      have hlf1 : lf = 1 := by
        have hne : fs ≠ [] := fun e => by have := nf.zero_iff.2 e; omega
        have h1 := List.length_pos_iff.2 hne
        have h2 := hxf.len
        omega
      subst hlf1
      obtain ⟨f0, hf0⟩ := List.length_eq_one_iff.1 hxf.len
      subst hf0
      have hfe : f0 = (F : Int) := by have := nf.val_; simpa [val] using this
      subst hfe
      obtain ⟨b6, o6, f1, rfl, hf1, hb6, hc6⟩ := hxf.get (j := 0) (by omega)
      have hfe : f1 = (F : Int) := by simpa using hf1.symm
      subst hfe
      rw [Nat.add_zero] at hc6
      clear hdone hRm hmm hI hf1 hAp
      go_wp2_with (first
        | (go_at_call 191; go_must (refine (by_any _ _ _ _ _ _ hR F0' (by omega) (by omega)).mono ?_; rintro e w7 ⟨A7, l7, c7, rr, rfl, _, hr7, hb7, hfr7⟩))
        | (go_at_call 170; go_must (refine (trim_ms _ _ _ _ _ (hRq.below hb7) hdig HV.out).mono ?_; rintro e w8 ⟨l8, rfl, hms, rfl⟩)))
      go_ret2
      refine ⟨_, _, _, _, _, _, rfl, hms.mono (by omega), ?_, chain hbT hb7, Lib.hid (fun ad e => (by cases e; exact Nat.le_trans hb04.size hg5)), Lib.hid (.inl fun ad e => Nat.le_trans hbT.size (hfr7 ad e))⟩
      have e7 : R / F = a % b := by rw [HR.out, HM.out]; exact Nat.mul_div_cancel _ F0'
      rw [e7] at hr7
      have hl7 := hr7.len_le (hb1'.below hb7) (Nat.le_of_lt (Nat.mod_lt a hb0))
      exact ⟨Nat.le_trans hl7 (by omega), hr7.2⟩

theorem over_any (w : World) {La Lb : Nat} (A B : Option Addr) (n m c d : Nat) (a b : Nat) (ha : Ms w La A n c a) (hb : Ms w Lb B m d b) (h0 : 0 < b) (hL : La + Lb ≤ 100000000000) :
    Calls Tryz.prog 171 #[.slice A n c, .slice B m d] w (OverR La Lb a b A n w) := by
  rcases Nat.lt_or_ge a b with h | h
  · exact over_less w A B n m c d a b ha hb h
  · have hm : 0 < m := by
      obtain ⟨_, ys, hy, ny⟩ := hb
      have hne : ys ≠ [] := fun e => by have := ny.zero_iff.2 e; omega
      have h1 := List.length_pos_iff.2 hne
      have h2 := hy.len
      omega
    rcases Nat.lt_or_ge m 2 with h2 | h2
    · obtain rfl : m = 1 := by omega
      exact over_one w A B n c d a b ha hb h h0 (by omega)
    · exact over_long w A B n m c d a b ha hb h h2 hL

end Go.Proofs.YtkajibniibjblaaGreatDoor
