/-
  whole.Mass: Over (long division).
-/
import Derived.Test.YtkajibniibjblaaGreatDoorMass4
import Derived.Test.YtkajibniibjblaaGreatDoorOverMath
import Derived.Deep.DeepCutAuto
import Derived.Deep.CutBlock
import Derived.Deep.RegionLaw
namespace Go.Proofs.YtkajibniibjblaaGreatDoor
open Go.RowKit
set_option maxRecDepth 100000

def OverR (La Lb a b : Nat) (A : Option Addr) (n : Nat) (w : World) (e : Ending) (w' : World) : Prop :=
  ∃ A1 l1 c1 A2 l2 c2, e = .returned (.tuple #[.slice A1 l1 c1, .slice A2 l2 c2]) ∧ Ms w' La A1 l1 c1 (a / b) ∧ Ms w' Lb A2 l2 c2 (a % b) ∧ Below w.heap.size w w' ∧ Hid (∀ ad, A1 = some ad → w.heap.size ≤ ad.block) ∧ Hid ((∀ ad, A2 = some ad → w.heap.size ≤ ad.block) ∨ (A2 = A ∧ l2 = n))

theorem Ms.len_le {w w' : World} {La Lb : Nat} {A B : Option Addr} {n m c d a b : Nat} (ha : Ms w La A n c a) (hb : Ms w' Lb B m d b) (h : a ≤ b) : n ≤ m := by
  obtain ⟨_, xs, hx, nx⟩ := ha
  obtain ⟨_, ys, hy, ny⟩ := hb
  rw [← hx.len, ← hy.len]
  exact nx.len_le ny h
theorem Ms.zero (w : World) (L : Nat) : Ms w L none 0 0 0 := ⟨Nat.zero_le _, [], ⟨rfl, Nat.le_refl _, by omega, fun _ => rfl, fun j d h => by simp at h⟩, Nm.nil⟩

theorem over_less (w : World) {La Lb : Nat} (A B : Option Addr) (n m c d : Nat) (a b : Nat) (ha : Ms w La A n c a) (hb : Ms w Lb B m d b) (h : a < b) :
    Calls Tryz.prog 171 #[.slice A n c, .slice B m d] w (OverR La Lb a b A n w) := by
  go_enter Tryz.func171, Tryz.ntmps171
  go_wp2_with (go_at_call 185; go_must (refine (cmp_any _ _ _ _ _ _ _ _ _ ha hb).mono ?_; rintro e w1 ⟨r, rfl, hr, hbel⟩; have hr0 := hr.1.2 h))
  go_ret2
  have ha1 := ha.below hbel
  have hb1 := hb.below hbel
  exact ⟨_, _, _, _, _, _, rfl, by rw [Nat.div_eq_of_lt h]; exact Ms.zero _ _, by rw [Nat.mod_eq_of_lt h]; exact ⟨Nat.le_trans (ha1.len_le hb1 (Nat.le_of_lt h)) hb1.1, ha1.2⟩, hbel, Lib.hid (fun ad e => nomatch e), Lib.hid (.inr ⟨rfl, rfl⟩)⟩

theorem over_one (w : World) {La Lb : Nat} (A B : Option Addr) (n c d : Nat) (a b : Nat) (ha : Ms w La A n c a) (hb : Ms w Lb B 1 d b) (h : b ≤ a) (h0 : 0 < b) (hL : La ≤ 1000000000000) :
    Calls Tryz.prog 171 #[.slice A n c, .slice B 1 d] w (OverR La Lb a b A n w) := by
  have hb' := hb
  obtain ⟨hlb, ys, hy, ny⟩ := hb
  obtain ⟨y, rfl⟩ := List.length_eq_one_iff.1 hy.len
  have hyb : y = (b : Int) := by have := ny.val_; simpa [val] using this
  subst hyb
  have hyd := (Dig.cons.1 ny.dig).1
  have hm := Nat.mod_lt a h0
  go_enter Tryz.func171, Tryz.ntmps171
  go_wp2_with (first
    | (go_at_call 185; go_must (refine (cmp_any _ _ _ _ _ _ _ _ _ ha hb').mono ?_; rintro e w1 ⟨r, rfl, hr, hbel⟩; have hr0 : ¬ r < 0 := fun hh => absurd (hr.1.1 hh) (by omega); obtain ⟨b1, o1, y', rfl, hyk, hb1, hc1⟩ := (hy.below hbel).get (j := 0) (by omega); have hyy : y' = (b : Int) := (by simpa using hyk.symm); subst hyy; rw [Nat.add_zero] at hc1; have ha1 := ha.below hbel))
    | (go_at_call 191; go_must (refine (by_any _ _ _ _ _ _ ha1 h0 (by omega) hL).mono ?_; rintro e w2 ⟨A2, l2, c2, rr, rfl, hrr, hq, hbel2, hfr2⟩; have hrb : rr < b := (by rw [hrr.out]; exact hm)))
    | (go_at_call 174; go_must (refine (one_any _ _ (by omega)).mono ?_; rintro e w3 ⟨A3, l3, c3, rfl, hr, hbel3, hfr3⟩)))
  go_ret2
  exact ⟨_, _, _, _, _, _, rfl, hq.below hbel3, by rw [← hrr.out]; exact hr.mono hlb, (hbel.trans (hbel2.mono hbel.size)).trans (hbel3.mono (Nat.le_trans hbel.size hbel2.size)), Lib.hid (fun ad e => Nat.le_trans hbel.size (hfr2 ad e)), Lib.hid (.inl fun ad e => Nat.le_trans (Nat.le_trans hbel.size hbel2.size) (hfr3 ad e))⟩

end Go.Proofs.YtkajibniibjblaaGreatDoor
