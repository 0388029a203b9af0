/-
  whole.Mass: trim, Cmp.
  whole.Mass: Plus.
  whole.Mass: Clone, Minus.
-/
import Derived.Test.YtkajibniibjblaaGreatDoorProg
import Derived.Test.YtkajibniibjblaaGreatDoorLaws
import Derived.OpenShut
import Derived.WalkLawsBesides
import Derived.BigQuiet
import Derived.BigGuardPart
import Derived.Outline
import Derived.Test.YtkajibniibjblaaGreatDoorDigits
import Derived.WalkSpells
namespace Go.Proofs.YtkajibniibjblaaGreatDoor
open Go.RowKit

theorem trim_any (w : World) (A : Option Addr) (n c : Nat) (xs : List Int) (h : Rd w .u64 A n c xs) :
    Calls Tryz.prog 170 #[.slice A n c] w fun e w' => e = .returned (.slice A (tl xs).length c) ∧ w = w' := by
  have hcap := h.cap
  have hmost := h.most
  go_enter Tryz.func170, Tryz.ntmps170
  go_wp2
  go_loop [3] (fun t => ∃ k : Nat, k ≤ n ∧ t = .int .i64 k ∧ tl (xs.take k) = tl xs) (fun t => (intOf t).toNat)
  case atStart => exact ⟨n, Nat.le_refl _, rfl, by rw [← h.len]; simp⟩
  case round =>
    obtain ⟨k, hk, rfl, ht⟩ := hrel
    have HT : Hid _ := ht
    clear ht
    by_cases h0 : 0 < k
    · obtain ⟨b, off, d, rfl, hd, hb, hc⟩ := h.get (j := k - 1) (by omega)
      by_cases hz : d = 0
      · subst hz
        have HD : Hid _ := hd
        clear hd
        go_wp2
        go_round
        case rel => exact ⟨k - 1, by omega, by go_num, (tl_take_pred h0 HD.out).trans HT.out⟩
        case measure => simp [intOf]; omega
      · have HL : Hid ((tl xs).length = k) := by
          rw [← HT.out, tl_take_ne h0 hd hz, List.length_take, h.len]; exact Nat.min_eq_left hk
        have HD : Hid _ := hd
        clear hd
        go_wp2
        go_ret
        exact ⟨by rw [HL.out]; rfl, rfl⟩
    · obtain rfl : k = 0 := by omega
      have HL : Hid ((tl xs).length = 0) := by rw [← HT.out]; rfl
      go_wp2
      go_ret
      exact ⟨by rw [HL.out]; rfl, rfl⟩

theorem trim_ms (w : World) (A : Option Addr) (n c : Nat) (xs : List Int) (h : Rd w .u64 A n c xs) {v : Nat} (hd : Dig xs) (hv : val xs = v) :
    Calls Tryz.prog 170 #[.slice A n c] w fun e w' => ∃ l, e = .returned (.slice A l c) ∧ Ms w n A l c v ∧ w = w' :=
  (trim_any w A n c xs h).mono fun _ _ ⟨he, hw⟩ => ⟨_, he, ⟨by rw [← h.len]; exact tl_length xs, _, h.tl_, Nm.of_dig hd hv⟩, hw⟩

theorem cmp_any (w : World) {La Lb : Nat} (A B : Option Addr) (n m c d : Nat) (a b : Nat) (ha : Ms w La A n c a) (hb : Ms w Lb B m d b) :
    Calls Tryz.prog 185 #[.slice A n c, .slice B m d] w fun e w' => ∃ r, e = .returned (.int .i64 r) ∧ CmpR r a b ∧ Below w.heap.size w w' := by
  obtain ⟨_, xs, hx, nx⟩ := ha
  obtain ⟨_, ys, hy, ny⟩ := hb
  have hcx := hx.cap
  have hmx := hx.most
  have hcy := hy.cap
  have hmy := hy.most
  by_cases hl : n = m
  · subst hl
    have hb0 : (((n : Int)) != (n : Int)) = false := by simp
    go_enter Tryz.func185, Tryz.ntmps185
    go_wp2
    go_loopw [5] (fun t wr => ∃ k : Nat, k ≤ n ∧ t = .int .i64 ((k : Int) - 1) ∧ xs.drop k = ys.drop k ∧ Below w.heap.size w wr) (fun t _ => (intOf t + 1).toNat)
    case atStart => exact ⟨n, Nat.le_refl _, rfl, by rw [List.drop_of_length_le (by rw [hx.len]; omega), List.drop_of_length_le (by rw [hy.len]; omega)], Below.refl _ _⟩
    case round =>
      obtain ⟨k, hk, rfl, hd, hbw⟩ := hrel
      have HD : Hid _ := hd
      clear hd
      by_cases h0 : 0 < k
      · obtain ⟨b1, o1, x, rfl, hxk, hb1, hc1⟩ := (hx.below hbw).get (j := k - 1) (by omega)
        obtain ⟨b2, o2, y, rfl, hyk, hb2, hc2⟩ := (hy.below hbw).get (j := k - 1) (by omega)
        have HX : Hid _ := hxk
        have HY : Hid _ := hyk
        clear hxk hyk
        have hkk : k - 1 + 1 = k := by omega
        rcases Int.lt_trichotomy x y with hlt | heq | hgt
        · have HV : Hid (a < b) := by
            have := val_lt_of_digit (k := k - 1) nx.dig ny.dig (by rw [hx.len, hy.len]) (by rw [hkk]; exact HD.out) HX.out HY.out hlt
            rw [nx.val_, ny.val_] at this
            show a < b
            omega
          go_wp2_with (go_quiet (fail))
          go_ret
          exact ⟨-1, rfl, ⟨⟨fun _ => HV.out, fun _ => by omega⟩, ⟨fun h => absurd h (by omega), fun h => absurd HV.out (by omega)⟩⟩, (by first | exact below_drewN hbw _ | exact below_drewN (below_drewN hbw _) _)⟩
        · subst heq
          have HV : Hid (xs.drop (k - 1) = ys.drop (k - 1)) := by
            have e1 := List.getElem?_eq_some_iff.1 HX.out
            have e2 := List.getElem?_eq_some_iff.1 HY.out
            show xs.drop (k - 1) = ys.drop (k - 1)
            rw [List.drop_eq_getElem_cons e1.1, List.drop_eq_getElem_cons e2.1, e1.2, e2.2, hkk, HD.out]
          go_wp2_with (go_quiet (fail))
          go_roundw
          case rel => exact ⟨k - 1, by omega, by go_num, HV.out, (by first | exact below_drewN hbw _ | exact below_drewN (below_drewN hbw _) _)⟩
          case measure => simp [intOf]; omega
        · have HV : Hid (b < a) := by
            have := val_lt_of_digit (k := k - 1) ny.dig nx.dig (by rw [hx.len, hy.len]) (by rw [hkk]; exact HD.out.symm) HY.out HX.out hgt
            rw [nx.val_, ny.val_] at this
            show b < a
            omega
          go_wp2_with (go_quiet (fail))
          go_ret
          exact ⟨1, rfl, ⟨⟨fun h => absurd h (by omega), fun h => absurd HV.out (by omega)⟩, ⟨fun _ => HV.out, fun _ => by omega⟩⟩, (by first | exact below_drewN hbw _ | exact below_drewN (below_drewN hbw _) _)⟩
      · obtain rfl : k = 0 := by omega
        have HV : Hid (a = b) := by
          have := HD.out
          simp at this
          have h2 := nx.val_
          rw [this, ny.val_] at h2
          show a = b
          omega
        go_wp2
        go_ret
        exact ⟨0, rfl, ⟨⟨fun h => absurd h (by omega), fun h => absurd HV.out (by omega)⟩, ⟨fun h => absurd h (by omega), fun h => absurd HV.out (by omega)⟩⟩, hbw⟩
  · have hb0 : (((n : Int)) != (m : Int)) = true := by simp; omega
    have HV : Hid (CmpR ((n : Int) - m) a b) := by
      rcases Nat.lt_or_gt_of_ne hl with h | h
      · have := nx.lt_of_len ny (by rw [hx.len, hy.len]; exact h)
        exact ⟨⟨fun _ => this, fun _ => by omega⟩, ⟨fun h => absurd h (by omega), fun h => absurd this (by omega)⟩⟩
      · have := ny.lt_of_len nx (by rw [hx.len, hy.len]; exact h)
        exact ⟨⟨fun h => absurd h (by omega), fun h => absurd this (by omega)⟩, ⟨fun _ => this, fun _ => by omega⟩⟩
    go_enter Tryz.func185, Tryz.ntmps185
    go_wp2
    go_ret
    exact ⟨_, rfl, HV.out, Below.refl _ _⟩
end Go.Proofs.YtkajibniibjblaaGreatDoor

namespace Go.Proofs.YtkajibniibjblaaGreatDoor
open Go.RowKit

theorem infoU64 : (Tryz.prog.info? 143).map (fun i => (i.zero, i.size, i.bytes)) = some (some (.int .u64 0), 1, 8) := by kernel_rfl

theorem sizeU64 : (Tryz.prog.info? 143).map (·.size) = some 1 := by kernel_rfl

set_option maxRecDepth 100000 in
theorem plus_any (w : World) {La Lb : Nat} (A B : Option Addr) (n m c d : Nat) (a b : Nat) (ha : Ms w La A n c a) (hb : Ms w Lb B m d b) (hL : max La Lb ≤ 1000000000000) :
    Calls Tryz.prog 173 #[.slice A n c, .slice B m d] w (RetM w (max La Lb + 1) (a + b)) := by
  obtain ⟨hla, xs, hx, nx⟩ := ha
  obtain ⟨hlb, ys, hy, ny⟩ := hb
  have hnM : n ≤ 1000000000000 := by omega
  have hmM : m ≤ 1000000000000 := by omega
  obtain ⟨N, hN⟩ : ∃ N, N = max n m := ⟨_, rfl⟩
  have HN : Hid (N = max n m) := hN
  have hN1 : n ≤ N := by omega
  have hN2 : m ≤ N := by omega
  have hNM : N ≤ 1000000000000 := by omega
  have hNL : N ≤ max La Lb := by omega
  clear hN
  by_cases hnm : n < m
  all_goals
    have HE : Hid (∀ v : Int, v = ((max n m : Nat) : Int) + 1 → Value.int .i64 v = Value.int .i64 ((N + 1 : Nat) : Int)) := by
      intro v hv; rw [hv, HN.out]; simp
    have HE2 : Hid (((max n m : Nat) : Int) = if n < m then (m : Int) else n) := by show _ = _; split <;> omega
    go_enter Tryz.func173, Tryz.ntmps173
    go_wp2_with (first
      | (at_make; refine wpList_make _ rfl _ _ 114 rfl 143 .u64 8 Tryz.underlying114 infoU64 (N + 1) (HE.out _ (by rw [HE2.out]; simp [hnm])) (HE.out _ (by rw [HE2.out]; simp [hnm])) (by omega) (by omega) ?_; intro g w1 hown1 _ hbel1 hg1 _)
      | (refine wpList_copy rfl (.tmp 16) (.tmp 17) 114 114 rfl 143 Tryz.underlying114 sizeU64 .u64 A n c xs rfl (hx.below hbel1) g (N + 1) (N + 1) _ rfl hown1 (by omega) (by simp) ?_; intro w2 hown2 hbel2))
    clear hown1
    have hb2 : Below w.heap.size w w2 := hbel1.trans (hbel2.mono hg1)
    go_loopw [21] (fun t wr => ∃ k : Nat, k ≤ m ∧ t = .int .i64 (k : Int) ∧ (∃ cs, Own wr .u64 143 g cs ∧ PlusA N a ys k cs) ∧ Below w.heap.size w wr) (fun t _ => m - (intOf t).toNat)
    case atStart => exact ⟨0, Nat.zero_le _, rfl, ⟨_, hown2, PlusA.start nx hx.len hN1⟩, hb2⟩
    case round =>
      obtain ⟨k, hk, rfl, ⟨cs, hown, hP⟩, hbw⟩ := hrel
      by_cases hlt : k < m
      · obtain ⟨b1, o1, y, rfl, hyk, hb1, hc1⟩ := (hy.below hbw).get hlt
        have hl : k < cs.length := by rw [hP.len]; omega
        have hxk : Hid (cs[k]? = some cs[k]) := List.getElem?_eq_getElem hl
        generalize cs[k] = x at *
        have hc2 := hown.cell hxk.out
        have hf2 := hown.frozen k
        have x1 := hP.lo k x hxk.out
        have x2 := hP.late k x hxk.out (Nat.le_refl _)
        have y1 := (ny.dig.get hyk).1
        have y2 := (ny.dig.get hyk).2
        have HP := hP.step ny.dig (by omega) hxk.out hyk
        have HO := hown.set_ k (x + y)
        clear hyk hown hP
        go_wp2
        go_roundw
        case rel => exact ⟨k + 1, by omega, by go_num, ⟨_, HO, HP⟩, hbw.setCell hg1 _⟩
        case measure => simp [intOf]; omega
      · obtain rfl : k = m := by omega
        have hQ := hP.next
        rw [show ys.take k = ys from List.take_of_length_le (by rw [hy.len]; omega), ny.val_] at hQ
        clear hP
        have HQ : Hid (PlusB N ((a : Int) + b) 0 cs) := hQ
        clear hQ
        go_wp2
        go_loopw [37] (fun t wr => ∃ k : Nat, k ≤ N ∧ t = .int .i64 (k : Int) ∧ (∃ cs, Own wr .u64 143 g cs ∧ PlusB N ((a : Int) + b) k cs) ∧ Below w.heap.size w wr) (fun t _ => N - (intOf t).toNat)
        case atStart => exact ⟨0, Nat.zero_le _, rfl, ⟨_, hown, HQ.out⟩, hbw⟩
        case round =>
          clear hown HQ hbw
          obtain ⟨k, hk, rfl, ⟨cs, hown, hP⟩, hbw⟩ := hrel
          by_cases hlt : k < N
          · have hl : k < cs.length := by rw [hP.len]; omega
            have hl1 : k + 1 < cs.length := by rw [hP.len]; omega
            have hxk : Hid (cs[k]? = some cs[k]) := List.getElem?_eq_getElem hl
            have hzk : Hid (cs[k + 1]? = some cs[k + 1]) := List.getElem?_eq_getElem hl1
            generalize cs[k] = x at *
            generalize cs[k + 1] = z at *
            have hc1 := hown.cell hxk.out
            have hf1 := hown.frozen k
            have hc2 := hown.cell hzk.out
            have hf2 := hown.frozen (k + 1)
            have x1 := hP.lo k x hxk.out
            have x2 := hP.hi k x hxk.out
            have z1 := hP.lo _ z hzk.out
            have z2 := hP.hi _ z hzk.out
            by_cases hc : x < 1000000000000000000
            · have HP := hP.small hxk.out hc hlt
              clear hP
              go_wp2
              go_roundw
              case rel => exact ⟨k + 1, by omega, by go_num, ⟨_, hown, HP⟩, hbw⟩
              case measure => simp [intOf]; omega
            · have HP := hP.great hxk.out hzk.out (by omega) hlt
              have HO := (hown.set_ k (x - 1000000000000000000)).set_ (k + 1) (z + 1)
              clear hP hown
              go_wp2
              go_roundw
              case rel => exact ⟨k + 1, by omega, by go_num, ⟨_, HO, HP⟩, (hbw.setCell hg1 _).setCell hg1 _⟩
              case measure => simp [intOf]; omega
          · obtain rfl : k = N := by omega
            have hd := hP.done
            have hR := hown.rd hP.len (Nat.le_refl _) (by omega)
            have hv := hP.val_
            clear hP
            go_wp2_with (go_at_call 170; refine (trim_ms _ _ _ _ _ hR hd (by rw [hv]; exact (Int.natCast_add _ _).symm)).mono ?_; rintro e w' ⟨l', rfl, hms, rfl⟩)
            go_ret
            exact ⟨_, _, _, rfl, hms.mono (by omega), hbw, fun ad e => by injection e with e; rw [← e]; exact hg1⟩
end Go.Proofs.YtkajibniibjblaaGreatDoor

namespace Go.Proofs.YtkajibniibjblaaGreatDoor
open Go.RowKit
set_option maxRecDepth 100000

theorem clone_any (w : World) (A : Option Addr) (n c : Nat) (xs : List Int) (h : Rd w .u64 A n c xs) (hn : n ≤ 1000000000000) :
    Calls Tryz.prog 192 #[.slice A n c] w fun e w' => ∃ A' c', e = .returned (.slice A' n c') ∧ OwnS w' .u64 143 w.heap.size A' n c' xs ∧ Below w.heap.size w w' := by
  rcases A with _ | ad
  · have h0 := h.nil_ rfl
    have h1 := h.cap
    obtain rfl : n = 0 := by omega
    subst h0
    have hx : xs = [] := List.eq_nil_of_length_eq_zero h.len
    subst hx
    have hnil := fun (W : World) => Lib.run_eql_slice_nil (P := Tryz.prog) W 114 143 none 0 0 0 0 Tryz.underlying114
    go_enter Tryz.func192, Tryz.ntmps192
    go_wp2
    go_ret
    exact ⟨none, 0, rfl, OwnS.nil _ _ _ _, Below.refl _ _⟩
  · have hnil := fun (W : World) => Lib.run_eql_slice_nil (P := Tryz.prog) W 114 143 (some ad) n c 0 0 Tryz.underlying114
    have hb0 : Below w.heap.size w (w.alloc (.cells #[] 143)) := (Below.refl _ _).alloc (Nat.le_refl _) _
    have ho0 := OwnS.made w .u64 143 [] (by simp)
    go_enter Tryz.func192, Tryz.ntmps192
    go_wp2_with (at_builtin; refine wpList_append rfl (.tmp 5) (.tmp 6) 114 rfl 143 .u64 8 Tryz.underlying114 infoU64 w.heap.size (some ⟨w.heap.size, 0, none⟩) 0 0 [] rfl ho0 (some ad) n c xs rfl (h.below hb0) (by omega) (by omega) (by simp) ?_; intro A1 c1 w1 hown1 hbel1 _)
    go_ret
    simp only [Nat.zero_add, List.nil_append] at hown1
    exact ⟨A1, c1, rfl, hown1, hb0.trans hbel1⟩

theorem minus_any (w : World) {La Lb : Nat} (A B : Option Addr) (n m c d : Nat) (a b : Nat) (ha : Ms w La A n c a) (hb : Ms w Lb B m d b) (hle : b ≤ a) (hL : La ≤ 1000000000000) :
    Calls Tryz.prog 175 #[.slice A n c, .slice B m d] w (RetM w La (a - b)) := by
  obtain ⟨hla, xs, hx, nx⟩ := ha
  obtain ⟨hlb, ys, hy, ny⟩ := hb
  have hnM : n ≤ 1000000000000 := by omega
  have hmn : m ≤ n := by
    rcases Nat.lt_or_ge n m with h | h
    · have := nx.lt_of_len ny (by rw [hx.len, hy.len]; exact h)
      omega
    · exact h
  go_enter Tryz.func175, Tryz.ntmps175
  go_wp2_with (go_at_call 192; refine (clone_any _ _ _ _ _ hx (by omega)).mono ?_; rintro e w1 ⟨A1, c1, rfl, hown1, hbel1⟩)
  go_loopw [6, 13] (fun bv t wr => ∃ (k : Nat) (bo : Int), k ≤ n ∧ t = .int .i64 (k : Int) ∧ bv = .int .u64 bo ∧ 0 ≤ bo ∧ bo ≤ 1 ∧ (∃ cs, (0 < n → ∃ g, A1 = some ⟨g, 0, none⟩ ∧ w.heap.size ≤ g ∧ n ≤ c1 ∧ c1 ≤ 9223372036854775807 ∧ Own wr .u64 143 g cs) ∧ MinA n a ys k bo cs) ∧ Below w.heap.size w wr) (fun _ t _ => n - (intOf t).toNat)
  case atStart => exact ⟨0, 0, Nat.zero_le _, rfl, rfl, by omega, by omega, ⟨_, fun h => hown1.own h, MinA.start nx hx.len⟩, hbel1⟩
  case round =>
    have hr1 := hown1.rd
    have hfr := hown1.fresh
    obtain ⟨k, bo, hk, rfl, rfl, b0, b1, ⟨cs, hown, hP⟩, hbw⟩ := hrel
    by_cases hlt : k < n
    · obtain ⟨g, rfl, hg1, hcc, hcm, hO⟩ := hown (by omega)
      have hl : k < cs.length := by rw [hP.len]; omega
      have hxk : Hid (cs[k]? = some cs[k]) := List.getElem?_eq_getElem hl
      generalize cs[k] = x at *
      have hc2 := hO.cell hxk.out
      have hf2 := hO.frozen k
      have x1 := (hP.dig.get hxk.out).1
      have x2 := (hP.dig.get hxk.out).2
      clear hown hown1 hr1 hfr
      by_cases hkm : k < m
      · obtain ⟨b1, o1, y, rfl, hyk, hb1, hc1⟩ := (hy.below hbw).get hkm
        have y1 := (ny.dig.get hyk).1
        have y2 := (ny.dig.get hyk).2
        have HY : Hid _ := val_take_succ hyk
        clear hyk
        by_cases hcmp : x < bo + y
        · have HP := hP.step (bo' := 1) (x' := x + 1000000000000000000 - (bo + y)) hxk.out HY.out (by omega) (by omega) (by omega)
          go_wp2
          go_roundw
          case rel =>
            have HO := (hO.set_ k (x + 1000000000000000000)).set_ k (x + 1000000000000000000 - (bo + y))
            rw [List.set_set] at HO
            exact ⟨k + 1, 1, by omega, by go_num, rfl, by omega, by omega, ⟨_, fun _ => ⟨g, rfl, hg1, hcc, hcm, HO⟩, HP⟩, (hbw.setCell hg1 _).setCell hg1 _⟩
          case measure => simp [intOf]; omega
        · have HP := hP.step (bo' := 0) (x' := x - (bo + y)) hxk.out HY.out (by omega) (by omega) (by omega)
          go_wp2
          go_roundw
          case rel => exact ⟨k + 1, 0, by omega, by go_num, rfl, by omega, by omega, ⟨_, fun _ => ⟨g, rfl, hg1, hcc, hcm, hO.set_ k _⟩, HP⟩, hbw.setCell hg1 _⟩
          case measure => simp [intOf]; omega
      · have HY : Hid _ := val_take_late (ys := ys) (k := k) (by rw [hy.len]; omega)
        by_cases hcmp : x < bo
        · have HP := hP.step (bo' := 1) (x' := x + 1000000000000000000 - bo) hxk.out HY.out (by omega) (by omega) (by omega)
          go_wp2
          go_roundw
          case rel =>
            have HO := (hO.set_ k (x + 1000000000000000000)).set_ k (x + 1000000000000000000 - bo)
            rw [List.set_set] at HO
            exact ⟨k + 1, 1, by omega, by go_num, rfl, by omega, by omega, ⟨_, fun _ => ⟨g, rfl, hg1, hcc, hcm, HO⟩, HP⟩, (hbw.setCell hg1 _).setCell hg1 _⟩
          case measure => simp [intOf]; omega
        · have HP := hP.step (bo' := 0) (x' := x - bo) hxk.out HY.out (by omega) (by omega) (by omega)
          go_wp2
          go_roundw
          case rel => exact ⟨k + 1, 0, by omega, by go_num, rfl, by omega, by omega, ⟨_, fun _ => ⟨g, rfl, hg1, hcc, hcm, hO.set_ k _⟩, HP⟩, hbw.setCell hg1 _⟩
          case measure => simp [intOf]; omega
    · obtain rfl : k = n := by omega
      have hv := hP.done ny (by rw [hy.len]; exact hmn) hle (by omega)
      have hR : Rd wr .u64 A1 k c1 cs := by
        rcases Nat.eq_zero_or_pos k with h0 | h0
        · subst h0
          have := hr1.nil_
          exact ⟨hP.len, by omega, hr1.most, this, fun j d hd => by have := (List.getElem?_eq_some_iff.1 hd).1; have := hP.len; omega⟩
        · obtain ⟨g, rfl, hg1, hcc, hcm, hO⟩ := hown h0
          exact hO.rd hP.len hcc hcm
      have hd := hP.dig
      clear hP hown hown1 hr1
      have hfr : Hid _ := hfr
      go_wp2_with (go_at_call 170; refine (trim_ms _ _ _ _ _ hR hd hv).mono ?_; rintro e w' ⟨l', rfl, hms, rfl⟩)
      go_ret
      exact ⟨_, _, _, rfl, hms.mono hla, hbw, hfr.out⟩

end Go.Proofs.YtkajibniibjblaaGreatDoor
