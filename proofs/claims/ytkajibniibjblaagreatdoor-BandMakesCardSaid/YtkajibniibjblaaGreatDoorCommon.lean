/-
  whole.Mass: Common (the greatest common divisor).
-/
import Derived.Test.YtkajibniibjblaaGreatDoorOver2
namespace Go.Proofs.YtkajibniibjblaaGreatDoor
open Go.RowKit
set_option maxRecDepth 100000

/-- A call returned a Mass that is the number n; its memory may be an argument's. -/
def RetMs (w : World) (L n : Nat) : Ending → World → Prop := fun e w' => ∃ A len c, e = .returned (.slice A len c) ∧ Ms w' L A len c n ∧ Below w.heap.size w w'

theorem common_any (w : World) {L : Nat} (A B : Option Addr) (n m c d : Nat) (a b : Nat) (ha : Ms w L A n c a) (hb : Ms w L B m d b) (hL : L ≤ 10000000000) :
    Calls Tryz.prog 168 #[.slice A n c, .slice B m d] w (RetMs w L (Nat.gcd a b)) := by
  go_enter Tryz.func168, Tryz.ntmps168
  go_wp2_with fail
  go_loopg [0, 1] b (fun y av bv wr => ∃ (A1 : Option Addr) (n1 c1 : Nat) (A2 : Option Addr) (n2 c2 x : Nat), av = .slice A1 n1 c1 ∧ bv = .slice A2 n2 c2 ∧ Ms wr L A1 n1 c1 x ∧ Ms wr L A2 n2 c2 y ∧ Hid (Nat.gcd x y = Nat.gcd a b) ∧ Below w.heap.size w wr)
  case atStart => exact ⟨A, n, c, B, m, d, a, rfl, rfl, ha, hb, rfl, Below.refl _ _⟩
  case round =>
    obtain ⟨y, rfl⟩ : ∃ y : Nat, y = gk := ⟨_, rfl⟩
    obtain ⟨A1, n1, c1, A2, n2, c2, x, rfl, rfl, hx, hy, hg, hbw⟩ := hrel
    have hl1 := hx.1
    have hl2 := hy.1
    by_cases h0 : 0 < n2
    · have hy0 : 0 < y := by
        obtain ⟨_, ys, hry, ny⟩ := hy
        refine Nat.pos_of_ne_zero fun e => ?_
        have h1 := ny.zero_iff.1 e
        have h2 := hry.len
        rw [h1] at h2
        simp at h2
        omega
      go_wp2_with (go_at_call 171; go_must (refine (over_any _ _ _ _ _ _ _ _ _ hx hy hy0 (by omega)).mono ?_; rintro e w2 ⟨A3, n3, c3, A4, n4, c4, rfl, hq, hr, hb2, _⟩))
      go_roundg (x % y)
      case measure => exact Nat.mod_lt _ hy0
      case rel => exact ⟨_, _, _, _, _, _, y, rfl, rfl, hy.below hb2, hr, by show _ = _; rw [← hg.out, Nat.gcd_comm x y, Nat.gcd_rec y x, Nat.gcd_comm], chain hbw hb2⟩
    · have hy0 : Hid (y = 0) := by
        obtain ⟨_, ys, hry, ny⟩ := hy
        have h2 := hry.len
        have : ys = [] := List.eq_nil_of_length_eq_zero (by omega)
        exact ny.zero_iff.2 this
      go_wp2
      go_ret
      have e := hg.out
      rw [hy0.out, Nat.gcd_zero_right] at e
      exact ⟨A1, n1, c1, rfl, by rw [← e]; exact hx, hbw⟩

end Go.Proofs.YtkajibniibjblaaGreatDoor
