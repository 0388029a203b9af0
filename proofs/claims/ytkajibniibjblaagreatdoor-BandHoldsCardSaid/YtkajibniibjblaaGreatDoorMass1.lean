/-
  whole.Mass: trim, Cmp.
-/
import Derived.Test.YtkajibniibjblaaGreatDoorProg
import Derived.Test.YtkajibniibjblaaGreatDoorLaws
import Derived.OpenShut
import Derived.WalkLawsBesides
import Derived.BigQuiet
import Derived.BigGuardPart
import Derived.Outline
namespace Go.Proofs.YtkajibniibjblaaGreatDoor
open Go.RowKit

theorem trim_any (w : World) (A : Option Addr) (n c : Nat) (xs : List Int) (h : Rd w .u64 A n c xs) :
    Calls Tryz.prog 170 #[.slice A n c] w fun e w' => e = .returned (.slice A (tl xs).length c) ∧ w = w' := by
  have hcap := h.cap
  have hmost := h.most
  go_enter Tryz.func170, Tryz.ntmps170
  go_wp2
  go_loop [3] (fun t => ∃ k : Nat, k ≤ n ∧ t = .int .i64 k ∧ tl (xs.take k) = tl xs) (fun t => (intOf t).toNat)
  case atStart => exact ⟨n, Nat.le_refl _, rfl, by rw [← h.len]; simp⟩
  case round =>
    obtain ⟨k, hk, rfl, ht⟩ := hrel
    have HT : Hid _ := ht
    clear ht
    by_cases h0 : 0 < k
    · obtain ⟨b, off, d, rfl, hd, hb, hc⟩ := h.get (j := k - 1) (by omega)
      by_cases hz : d = 0
      · subst hz
        have HD : Hid _ := hd
        clear hd
        go_wp2
        go_round
        case rel => exact ⟨k - 1, by omega, by go_num, (tl_take_pred h0 HD.out).trans HT.out⟩
        case measure => simp [intOf]; omega
      · have HL : Hid ((tl xs).length = k) := by
          rw [← HT.out, tl_take_ne h0 hd hz, List.length_take, h.len]; exact Nat.min_eq_left hk
        have HD : Hid _ := hd
        clear hd
        go_wp2
        go_ret
        exact ⟨by rw [HL.out]; rfl, rfl⟩
    · obtain rfl : k = 0 := by omega
      have HL : Hid ((tl xs).length = 0) := by rw [← HT.out]; rfl
      go_wp2
      go_ret
      exact ⟨by rw [HL.out]; rfl, rfl⟩

theorem trim_ms (w : World) (A : Option Addr) (n c : Nat) (xs : List Int) (h : Rd w .u64 A n c xs) {v : Nat} (hd : Dig xs) (hv : val xs = v) :
    Calls Tryz.prog 170 #[.slice A n c] w fun e w' => ∃ l, e = .returned (.slice A l c) ∧ Ms w n A l c v ∧ w = w' :=
  (trim_any w A n c xs h).mono fun _ _ ⟨he, hw⟩ => ⟨_, he, ⟨by rw [← h.len]; exact tl_length xs, _, h.tl_, Nm.of_dig hd hv⟩, hw⟩

theorem cmp_any (w : World) {La Lb : Nat} (A B : Option Addr) (n m c d : Nat) (a b : Nat) (ha : Ms w La A n c a) (hb : Ms w Lb B m d b) :
    Calls Tryz.prog 185 #[.slice A n c, .slice B m d] w fun e w' => ∃ r, e = .returned (.int .i64 r) ∧ CmpR r a b ∧ Below w.heap.size w w' := by
  obtain ⟨_, xs, hx, nx⟩ := ha
  obtain ⟨_, ys, hy, ny⟩ := hb
  have hcx := hx.cap
  have hmx := hx.most
  have hcy := hy.cap
  have hmy := hy.most
  by_cases hl : n = m
  · subst hl
    have hb0 : (((n : Int)) != (n : Int)) = false := by simp
    go_enter Tryz.func185, Tryz.ntmps185
    go_wp2
    go_loopw [5] (fun t wr => ∃ k : Nat, k ≤ n ∧ t = .int .i64 ((k : Int) - 1) ∧ xs.drop k = ys.drop k ∧ Below w.heap.size w wr) (fun t _ => (intOf t + 1).toNat)
    case atStart => exact ⟨n, Nat.le_refl _, rfl, by rw [List.drop_of_length_le (by rw [hx.len]; omega), List.drop_of_length_le (by rw [hy.len]; omega)], Below.refl _ _⟩
    case round =>
      obtain ⟨k, hk, rfl, hd, hbw⟩ := hrel
      have HD : Hid _ := hd
      clear hd
      by_cases h0 : 0 < k
      · obtain ⟨b1, o1, x, rfl, hxk, hb1, hc1⟩ := (hx.below hbw).get (j := k - 1) (by omega)
        obtain ⟨b2, o2, y, rfl, hyk, hb2, hc2⟩ := (hy.below hbw).get (j := k - 1) (by omega)
        have HX : Hid _ := hxk
        have HY : Hid _ := hyk
        clear hxk hyk
        have hkk : k - 1 + 1 = k := by omega
        rcases Int.lt_trichotomy x y with hlt | heq | hgt
        · have HV : Hid (a < b) := by
            have := val_lt_of_digit (k := k - 1) nx.dig ny.dig (by rw [hx.len, hy.len]) (by rw [hkk]; exact HD.out) HX.out HY.out hlt
            rw [nx.val_, ny.val_] at this
            show a < b
            omega
          go_wp2_with (go_quiet (fail))
          go_ret
          exact ⟨-1, rfl, ⟨⟨fun _ => HV.out, fun _ => by omega⟩, ⟨fun h => absurd h (by omega), fun h => absurd HV.out (by omega)⟩⟩, (by first | exact below_drewN hbw _ | exact below_drewN (below_drewN hbw _) _)⟩
        · subst heq
          have HV : Hid (xs.drop (k - 1) = ys.drop (k - 1)) := by
            have e1 := List.getElem?_eq_some_iff.1 HX.out
            have e2 := List.getElem?_eq_some_iff.1 HY.out
            show xs.drop (k - 1) = ys.drop (k - 1)
            rw [List.drop_eq_getElem_cons e1.1, List.drop_eq_getElem_cons e2.1, e1.2, e2.2, hkk, HD.out]
          go_wp2_with (go_quiet (fail))
          go_roundw
          case rel => exact ⟨k - 1, by omega, by go_num, HV.out, (by first | exact below_drewN hbw _ | exact below_drewN (below_drewN hbw _) _)⟩
          case measure => simp [intOf]; omega
        · have HV : Hid (b < a) := by
            have := val_lt_of_digit (k := k - 1) ny.dig nx.dig (by rw [hx.len, hy.len]) (by rw [hkk]; exact HD.out.symm) HY.out HX.out hgt
            rw [nx.val_, ny.val_] at this
            show b < a
            omega
          go_wp2_with (go_quiet (fail))
          go_ret
          exact ⟨1, rfl, ⟨⟨fun h => absurd h (by omega), fun h => absurd HV.out (by omega)⟩, ⟨fun _ => HV.out, fun _ => by omega⟩⟩, (by first | exact below_drewN hbw _ | exact below_drewN (below_drewN hbw _) _)⟩
      · obtain rfl : k = 0 := by omega
        have HV : Hid (a = b) := by
          have := HD.out
          simp at this
          have h2 := nx.val_
          rw [this, ny.val_] at h2
          show a = b
          omega
        go_wp2
        go_ret
        exact ⟨0, rfl, ⟨⟨fun h => absurd h (by omega), fun h => absurd HV.out (by omega)⟩, ⟨fun h => absurd h (by omega), fun h => absurd HV.out (by omega)⟩⟩, hbw⟩
  · have hb0 : (((n : Int)) != (m : Int)) = true := by simp; omega
    have HV : Hid (CmpR ((n : Int) - m) a b) := by
      rcases Nat.lt_or_gt_of_ne hl with h | h
      · have := nx.lt_of_len ny (by rw [hx.len, hy.len]; exact h)
        exact ⟨⟨fun _ => this, fun _ => by omega⟩, ⟨fun h => absurd h (by omega), fun h => absurd this (by omega)⟩⟩
      · have := ny.lt_of_len nx (by rw [hx.len, hy.len]; exact h)
        exact ⟨⟨fun h => absurd h (by omega), fun h => absurd this (by omega)⟩, ⟨fun _ => this, fun _ => by omega⟩⟩
    go_enter Tryz.func185, Tryz.ntmps185
    go_wp2
    go_ret
    exact ⟨_, rfl, HV.out, Below.refl _ _⟩
end Go.Proofs.YtkajibniibjblaaGreatDoor
