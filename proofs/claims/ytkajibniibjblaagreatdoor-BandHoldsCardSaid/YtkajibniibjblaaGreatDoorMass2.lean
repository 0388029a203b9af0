/-
  whole.Mass: Plus.
-/
import Derived.Test.YtkajibniibjblaaGreatDoorMass1
import Derived.Test.YtkajibniibjblaaGreatDoorLaws
import Derived.Test.YtkajibniibjblaaGreatDoorDigits
import Derived.Outline
namespace Go.Proofs.YtkajibniibjblaaGreatDoor
open Go.RowKit

theorem infoU64 : (Tryz.prog.info? 143).map (fun i => (i.zero, i.size, i.bytes)) = some (some (.int .u64 0), 1, 8) := by kernel_rfl

theorem sizeU64 : (Tryz.prog.info? 143).map (·.size) = some 1 := by kernel_rfl

set_option maxRecDepth 100000 in
theorem plus_any (w : World) {La Lb : Nat} (A B : Option Addr) (n m c d : Nat) (a b : Nat) (ha : Ms w La A n c a) (hb : Ms w Lb B m d b) (hL : max La Lb ≤ 1000000000000) :
    Calls Tryz.prog 173 #[.slice A n c, .slice B m d] w (RetM w (max La Lb + 1) (a + b)) := by
  obtain ⟨hla, xs, hx, nx⟩ := ha
  obtain ⟨hlb, ys, hy, ny⟩ := hb
  have hnM : n ≤ 1000000000000 := by omega
  have hmM : m ≤ 1000000000000 := by omega
  obtain ⟨N, hN⟩ : ∃ N, N = max n m := ⟨_, rfl⟩
  have HN : Hid (N = max n m) := hN
  have hN1 : n ≤ N := by omega
  have hN2 : m ≤ N := by omega
  have hNM : N ≤ 1000000000000 := by omega
  have hNL : N ≤ max La Lb := by omega
  clear hN
  by_cases hnm : n < m
  all_goals
    have HE : Hid (∀ v : Int, v = ((max n m : Nat) : Int) + 1 → Value.int .i64 v = Value.int .i64 ((N + 1 : Nat) : Int)) := by
      intro v hv; rw [hv, HN.out]; simp
    have HE2 : Hid (((max n m : Nat) : Int) = if n < m then (m : Int) else n) := by show _ = _; split <;> omega
    go_enter Tryz.func173, Tryz.ntmps173
    go_wp2_with (first
      | (at_make; refine wpList_make _ rfl _ _ 114 rfl 143 .u64 8 Tryz.underlying114 infoU64 (N + 1) (HE.out _ (by rw [HE2.out]; simp [hnm])) (HE.out _ (by rw [HE2.out]; simp [hnm])) (by omega) (by omega) ?_; intro g w1 hown1 _ hbel1 hg1 _)
      | (refine wpList_copy rfl (.tmp 16) (.tmp 17) 114 114 rfl 143 Tryz.underlying114 sizeU64 .u64 A n c xs rfl (hx.below hbel1) g (N + 1) (N + 1) _ rfl hown1 (by omega) (by simp) ?_; intro w2 hown2 hbel2))
    clear hown1
    have hb2 : Below w.heap.size w w2 := hbel1.trans (hbel2.mono hg1)
    go_loopw [21] (fun t wr => ∃ k : Nat, k ≤ m ∧ t = .int .i64 (k : Int) ∧ (∃ cs, Own wr .u64 143 g cs ∧ PlusA N a ys k cs) ∧ Below w.heap.size w wr) (fun t _ => m - (intOf t).toNat)
    case atStart => exact ⟨0, Nat.zero_le _, rfl, ⟨_, hown2, PlusA.start nx hx.len hN1⟩, hb2⟩
    case round =>
      obtain ⟨k, hk, rfl, ⟨cs, hown, hP⟩, hbw⟩ := hrel
      by_cases hlt : k < m
      · obtain ⟨b1, o1, y, rfl, hyk, hb1, hc1⟩ := (hy.below hbw).get hlt
        have hl : k < cs.length := by rw [hP.len]; omega
        have hxk : Hid (cs[k]? = some cs[k]) := List.getElem?_eq_getElem hl
        generalize cs[k] = x at *
        have hc2 := hown.cell hxk.out
        have hf2 := hown.frozen k
        have x1 := hP.lo k x hxk.out
        have x2 := hP.late k x hxk.out (Nat.le_refl _)
        have y1 := (ny.dig.get hyk).1
        have y2 := (ny.dig.get hyk).2
        have HP := hP.step ny.dig (by omega) hxk.out hyk
        have HO := hown.set_ k (x + y)
        clear hyk hown hP
        go_wp2
        go_roundw
        case rel => exact ⟨k + 1, by omega, by go_num, ⟨_, HO, HP⟩, hbw.setCell hg1 _⟩
        case measure => simp [intOf]; omega
      · obtain rfl : k = m := by omega
        have hQ := hP.next
        rw [show ys.take k = ys from List.take_of_length_le (by rw [hy.len]; omega), ny.val_] at hQ
        clear hP
        have HQ : Hid (PlusB N ((a : Int) + b) 0 cs) := hQ
        clear hQ
        go_wp2
        go_loopw [37] (fun t wr => ∃ k : Nat, k ≤ N ∧ t = .int .i64 (k : Int) ∧ (∃ cs, Own wr .u64 143 g cs ∧ PlusB N ((a : Int) + b) k cs) ∧ Below w.heap.size w wr) (fun t _ => N - (intOf t).toNat)
        case atStart => exact ⟨0, Nat.zero_le _, rfl, ⟨_, hown, HQ.out⟩, hbw⟩
        case round =>
          clear hown HQ hbw
          obtain ⟨k, hk, rfl, ⟨cs, hown, hP⟩, hbw⟩ := hrel
          by_cases hlt : k < N
          · have hl : k < cs.length := by rw [hP.len]; omega
            have hl1 : k + 1 < cs.length := by rw [hP.len]; omega
            have hxk : Hid (cs[k]? = some cs[k]) := List.getElem?_eq_getElem hl
            have hzk : Hid (cs[k + 1]? = some cs[k + 1]) := List.getElem?_eq_getElem hl1
            generalize cs[k] = x at *
            generalize cs[k + 1] = z at *
            have hc1 := hown.cell hxk.out
            have hf1 := hown.frozen k
            have hc2 := hown.cell hzk.out
            have hf2 := hown.frozen (k + 1)
            have x1 := hP.lo k x hxk.out
            have x2 := hP.hi k x hxk.out
            have z1 := hP.lo _ z hzk.out
            have z2 := hP.hi _ z hzk.out
            by_cases hc : x < 1000000000000000000
            · have HP := hP.small hxk.out hc hlt
              clear hP
              go_wp2
              go_roundw
              case rel => exact ⟨k + 1, by omega, by go_num, ⟨_, hown, HP⟩, hbw⟩
              case measure => simp [intOf]; omega
            · have HP := hP.great hxk.out hzk.out (by omega) hlt
              have HO := (hown.set_ k (x - 1000000000000000000)).set_ (k + 1) (z + 1)
              clear hP hown
              go_wp2
              go_roundw
              case rel => exact ⟨k + 1, by omega, by go_num, ⟨_, HO, HP⟩, (hbw.setCell hg1 _).setCell hg1 _⟩
              case measure => simp [intOf]; omega
          · obtain rfl : k = N := by omega
            have hd := hP.done
            have hR := hown.rd hP.len (Nat.le_refl _) (by omega)
            have hv := hP.val_
            clear hP
            go_wp2_with (go_at_call 170; refine (trim_ms _ _ _ _ _ hR hd (by rw [hv]; exact (Int.natCast_add _ _).symm)).mono ?_; rintro e w' ⟨l', rfl, hms, rfl⟩)
            go_ret
            exact ⟨_, _, _, rfl, hms.mono (by omega), hbw, fun ad e => by injection e with e; rw [← e]; exact hg1⟩
end Go.Proofs.YtkajibniibjblaaGreatDoor
