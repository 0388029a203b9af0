/-
  whole.Gcd, Int.
-/
import Derived.Test.YtkajibniibjblaaGreatDoorFrom
namespace Go.Proofs.YtkajibniibjblaaGreatDoor
open Go.RowKit
set_option maxRecDepth 100000

/-- The text is that of the number, which is not too long. -/
structure VW (s : ByteArray) (z : Int) : Prop where
  fits_ : fits z = true
  text : s.data.toList = Lib.itoa z
theorem VW.ok {s : ByteArray} {z : Int} (h : VW s z) : wokE s = 0 := by rw [wokE, wok_itoa z h.fits_ s h.text]; rfl
theorem wok_vw {s : ByteArray} (h : wok s = true) : ∃ z, VW s z := let ⟨z, h1, h2⟩ := wok_some s h; ⟨z, h1, h2⟩
theorem read_vw (w : World) {s : ByteArray} {z : Int} (h : VW s z) : Calls Tryz.prog 132 #[.string s] w (RetN w 40 z) := read_any w s z h.fits_ h.text

theorem gcd_side {g : Nat} {gI : Int} (h : gI = g) : false = decide (gI < 0) := by rw [h]; simp

theorem num_field0 (W : World) (b : Bool) (A : Option Addr) (l c : Nat) : (Instr.field 116 (.agg #[.bool b, .slice A l c]) 0).run Tryz.prog W = .ok (.bool b) W := by kernel_rfl
theorem num_field1 (W : World) (b : Bool) (A : Option Addr) (l c : Nat) : (Instr.field 116 (.agg #[.bool b, .slice A l c]) 1).run Tryz.prog W = .ok (.slice A l c) W := by kernel_rfl

theorem gcd_i (w : World) (henv : Env w) (s t : ByteArray) (y z : Int) (hs : VW s y) (ht : VW t z) (g : Nat) (hg : Hid (Nat.gcd y.natAbs z.natAbs = g)) (gI : Int) (hgI : Hid (gI = g)) :
    Calls Tryz.prog 131 #[.string s, .string t] w (ToldR gI w) := by
  have h1 := hs.ok
  have h2 := ht.ok
  go_enter Tryz.func131, Tryz.ntmps131
  have HE := Lib.hid henv
  have hf1 := num_field1
  clear henv
  go_upto_region 3 with (go_at_call 130; go_must (refine (check_any _ _).mono ?_; rintro e wa ⟨rfl, hba⟩; first | (rw [h1]; clear h1; have hbA := hba; clear hba) | (rw [h2]; clear h2; have hbB := hba; clear hba)))
  have hW := chain hbA hbB
  clear hbA hbB
  go_upto_region 4 with (go_at_call 132; go_must (refine (read_vw _ hs).mono ?_; rintro e wc ⟨bl, A, n, c, rfl, hbl, hA, hbc, _⟩))
  go_wp2_with (first
    | (go_at_call 132; go_must (refine (read_vw _ ht).mono ?_; rintro e wd ⟨bm, B, m, d, rfl, hbm, hB, hbd, _⟩))
    | (go_at_call 168; go_must (refine (common_any _ _ _ _ _ _ _ _ _ (hA.below hbd) hB (by omega)).mono ?_; rintro e we ⟨Cc, p, cc, rfl, hC, hbe⟩))
    | (go_at_call 89; go_must (refine (told_any _ ((((HE.out.below hW).below hbc).below hbd).below hbe) _ _ _ gI _ (gcd_side hgI.out) (by rw [hgI.out, Int.natAbs_natCast, ← hg.out]; exact hC) (by omega)).mono ?_; rintro e wf ⟨rfl, hbf⟩)))
  go_ret2
  exact ⟨rfl, chain (chain (chain (chain hW hbc) hbd) hbe) hbf⟩

theorem gcd_any (w : World) (henv : Env w) (s t : ByteArray) (y z : Int) (hs : VW s y) (ht : VW t z) :
    Calls Tryz.prog 131 #[.string s, .string t] w (ToldR (Nat.gcd y.natAbs z.natAbs : Nat) w) :=
  gcd_i w henv s t y z hs ht _ rfl _ rfl

end Go.Proofs.YtkajibniibjblaaGreatDoor
