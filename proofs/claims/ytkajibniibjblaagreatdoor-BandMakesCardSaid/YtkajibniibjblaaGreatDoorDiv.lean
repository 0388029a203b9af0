/-
  math/bits.Div64.
-/
import Derived.Test.YtkajibniibjblaaGreatDoorDivMath
import Derived.Test.YtkajibniibjblaaGreatDoorLaws
import Derived.Test.YtkajibniibjblaaGreatDoorShelf
import Derived.Lib.ItoaNum
import Derived.WalkSpells
import Derived.WalkLawsBesides
import Derived.BigQuiet
import Derived.BigGuardPart
import Derived.Outline
import Derived.Deep.DeepCutAuto
import Derived.Deep.CutBlock
namespace Go.Proofs.YtkajibniibjblaaGreatDoor
open Go.RowKit
set_option maxRecDepth 100000

def W64 : Int := 18446744073709551616
/-- What LeadingZeros64 returns of a number that is not 0. -/
def LzR (n : Nat) (y : Int) : Prop := n ≤ 63 ∧ 9223372036854775807 < y * 2 ^ n ∧ y * 2 ^ n ≤ 18446744073709551615

theorem lz_any (y : Int) (h0 : 0 < y) (h1 : y ≤ 18446744073709551615) (w : World) :
    Calls Tryz.prog 157 #[.int .u64 y] w fun e w' => ∃ n : Nat, e = .returned (.int .i64 n) ∧ LzR n y ∧ w = w' := by
  obtain ⟨y, rfl⟩ := Int.eq_ofNat_of_zero_le (Int.le_of_lt h0)
  have hb := Lib.bitLenAux_bounds 64 y (by omega) (by omega)
  have hle := Lib.bitLen_le y 64 (by omega) (by omega)
  refine (Tryz.bits_LeadingZeros64 (y : Int) w (by omega) h1).mono fun e w' ⟨he, hw⟩ => ⟨64 - Lib.bitLen y, ?_, ⟨?_, ?_, ?_⟩, hw.symm⟩
  · rw [he, Int.toNat_natCast]
    exact ret_eq (congrArg _ (by omega))
  all_goals
    unfold Lib.bitLen at *
    obtain ⟨b1, b2, b3⟩ := hb
    generalize Lib.bitLenAux 64 y = k at *
  · omega
  · have hp : (2 : Nat) ^ (k - 1) * 2 ^ (64 - k) = 9223372036854775808 := by rw [← Nat.pow_add, show k - 1 + (64 - k) = 63 by omega]
    have h3 : 2 ^ (k - 1) * 2 ^ (64 - k) ≤ y * 2 ^ (64 - k) := Nat.mul_le_mul_right _ b2
    have h4 : ((y * 2 ^ (64 - k) : Nat) : Int) = (y : Int) * 2 ^ (64 - k) := by simp
    omega
  · have hp : (2 : Nat) ^ k * 2 ^ (64 - k) = 18446744073709551616 := by rw [← Nat.pow_add, show k + (64 - k) = 64 by omega]
    have h3 : y * 2 ^ (64 - k) < 2 ^ k * 2 ^ (64 - k) := Nat.mul_lt_mul_of_pos_right b3 (Nat.two_pow_pos _)
    have h4 : ((y * 2 ^ (64 - k) : Nat) : Int) = (y : Int) * 2 ^ (64 - k) := by simp
    omega

theorem div_far (hi lo y : Int) (w : World) (h0 : 0 < hi) (h1 : hi < y) (h2 : y ≤ 18446744073709551615) (h3 : 0 ≤ lo) (h4 : lo ≤ 18446744073709551615) :
    Calls Tryz.prog 119 #[.int .u64 hi, .int .u64 lo, .int .u64 y] w fun e w' => ∃ q r, e = .returned (.tuple #[.int .u64 q, .int .u64 r]) ∧ q * y + r = hi * W64 + lo ∧ 0 ≤ q ∧ 0 ≤ r ∧ r < y ∧ w = w' := by
  go_enter Tryz.func119, Tryz.ntmps119
  go_upto_region 8 with (go_at_call 157; refine (lz_any _ (by omega) (by omega) _).mono ?_; rintro e w' ⟨n, rfl, ⟨s1, s2, s3⟩, rfl⟩)
  obtain ⟨Y, y1, y0, U, u1, u0, V, eY, ey1, ey0, eU, eV, eu1, eu0, u00, u01, HY, v0, v1, P, HT⟩ := norm hi lo y n h0 h1 h3 h4 s1 s2 s3
  have P' : Hid _ := P
  have HT' : Hid _ := HT
  have HY' : Hid _ := HY
  rw [eY] at s2 s3
  obtain ⟨p1, p2, p3, p4, p5, p6, p7, p8⟩ := P
  clear HT HY
  have EY : Hid _ := eY
  go_upto_block 0 with fail
  go_cut [15, 16] (fun s15 s16 wx => (∃ q, s15 = .int .u64 q ∧ Hid (DgF U u1 y1 y0 q)) ∧ w = wx)
  case first =>
    have hst := P'.out.start
    have hws : Hid _ := P'.out.wrapStart
    have HS : Hid _ := hst
    go_wp2
    go_loop [15, 16] (fun s15 s16 => ∃ q r, s15 = .int .u64 q ∧ s16 = .int .u64 r ∧ DgI U u1 y1 y0 q r) (fun s15 _ => (intOf s15).toNat)
    case atStart => exact ⟨_, _, rfl, by rw [hws.out], HS.out⟩
    case round =>
      obtain ⟨q, r, rfl, rfl, hI⟩ := hrel
      clear hst
      obtain ⟨r0, r1, q0, q1⟩ := And.intro hI.r0 (And.intro hI.r1 (And.intro hI.q0 hI.q1))
      have hpr := hI.prods P'.out
      rcases hI.ways P'.out with ⟨c1, c2, HN⟩ | ⟨c1, c2, HN⟩ | ⟨c1, c0, c2, c3, HN⟩ | ⟨c1, c0, c2, c3, HN⟩ | ⟨c1, c2, HN⟩
      · clear hI hpr
        have HN' : Hid _ := HN
        clear HN
        go_wp2
        go_round
        case rel => exact ⟨_, _, rfl, rfl, HN'.out⟩
        case measure => simp [intOf]; omega
      · clear hI hpr
        have HN' : Hid _ := HN
        clear HN
        go_wp2
        all_goals
          go_meet
          case rel => exact ⟨⟨_, rfl, HN'⟩, rfl⟩
      · obtain ⟨g1, g2⟩ := hpr c1
        clear hI
        have HN' : Hid _ := HN
        clear HN
        go_wp2
        go_round
        case rel => exact ⟨_, _, rfl, rfl, HN'.out⟩
        case measure => simp [intOf]; omega
      · obtain ⟨g1, g2⟩ := hpr c1
        clear hI
        have HN' : Hid _ := HN
        clear HN
        go_wp2
        all_goals
          go_meet
          case rel => exact ⟨⟨_, rfl, HN'⟩, rfl⟩
      · obtain ⟨g1, g2⟩ := hpr c1
        clear hI
        have HN' : Hid _ := HN
        clear HN
        go_wp2
        all_goals
          go_meet
          case rel => exact ⟨⟨_, rfl, HN'⟩, rfl⟩
  case rest =>
    obtain ⟨⟨q, rfl, HF⟩, rfl⟩ := hcut
    have q0 := HF.out.q0
    have q1 := HF.out.q1
    have hl := HF.out.left P'.out
    have hR := HF.out.rest P'.out u00 u01
    rw [← HY'.out] at hl hR
    obtain ⟨R, hRR⟩ : ∃ R, R = U * 4294967296 + u1 - q * Y := ⟨_, rfl⟩
    rw [← hRR] at hl hR
    have HRR : Hid _ := hRR
    have HR : Hid _ := hR
    have r0 := hR.u0
    have r1 := hR.u1
    clear hRR hR eY ey1 ey0 eV eu1 eu0
    have hws : Hid _ := HR.out.wrapStart
    go_upto_block 2 with fail
    go_cut [18, 16] (fun s18 s16 wx => (∃ k, s18 = .int .u64 k ∧ Hid (DgF R u0 y1 y0 k)) ∧ w = wx)
    case first =>
      have HS : Hid _ := HR.out.start
      go_wp2
      go_loop [18, 16] (fun s15 s16 => ∃ q r, s15 = .int .u64 q ∧ s16 = .int .u64 r ∧ DgI R u0 y1 y0 q r) (fun s15 _ => (intOf s15).toNat)
      case atStart => exact ⟨_, _, rfl, by rw [hws.out], HS.out⟩
      case round =>
        obtain ⟨q, r, rfl, rfl, hI⟩ := hrel
        obtain ⟨r0, r1, q0, q1⟩ := And.intro hI.r0 (And.intro hI.r1 (And.intro hI.q0 hI.q1))
        have hpr := hI.prods HR.out
        rcases hI.ways HR.out with ⟨c1, c2, HN⟩ | ⟨c1, c2, HN⟩ | ⟨c1, c0, c2, c3, HN⟩ | ⟨c1, c0, c2, c3, HN⟩ | ⟨c1, c2, HN⟩
        · clear hI hpr
          have HN' : Hid _ := HN
          clear HN
          go_wp2
          go_round
          case rel => exact ⟨_, _, rfl, rfl, HN'.out⟩
          case measure => simp [intOf]; omega
        · clear hI hpr
          have HN' : Hid _ := HN
          clear HN
          go_wp2
          all_goals
            go_meet
            case rel => exact ⟨⟨_, rfl, HN'⟩, rfl⟩
        · obtain ⟨g1, g2⟩ := hpr c1
          clear hI
          have HN' : Hid _ := HN
          clear HN
          go_wp2
          go_round
          case rel => exact ⟨_, _, rfl, rfl, HN'.out⟩
          case measure => simp [intOf]; omega
        · obtain ⟨g1, g2⟩ := hpr c1
          clear hI
          have HN' : Hid _ := HN
          clear HN
          go_wp2
          all_goals
            go_meet
            case rel => exact ⟨⟨_, rfl, HN'⟩, rfl⟩
        · obtain ⟨g1, g2⟩ := hpr c1
          clear hI
          have HN' : Hid _ := HN
          clear HN
          go_wp2
          all_goals
            go_meet
            case rel => exact ⟨⟨_, rfl, HN'⟩, rfl⟩
    case rest =>
      obtain ⟨⟨k, rfl, HG⟩, rfl⟩ := hcut
      have k0 := HG.out.q0
      have k1 := HG.out.q1
      have hl2 := HG.out.left HR.out
      have hS := HG.out.rest HR.out u00 u01
      rw [← HY'.out] at hl2 hS
      obtain ⟨S, hSS⟩ : ∃ S, S = R * 4294967296 + u0 - k * Y := ⟨_, rfl⟩
      rw [← hSS] at hl2 hS
      have HSS : Hid _ := hSS
      have HS2 : Hid _ := hS
      have sb0 := hS.u0
      have sb1 := hS.u1
      have HE : Hid _ := div_end EY.out HT'.out HRR.out HSS.out sb0 (by rw [HY'.out]; exact sb1)
      clear hSS hS hl
      go_wp2
      go_ret2
      exact ⟨_, _, rfl, by rw [W64]; exact HE.out.1, by omega, HE.out.2.1, HE.out.2.2, rfl⟩
end Go.Proofs.YtkajibniibjblaaGreatDoor
