/-
  whole.From, Of, Int, Gcd.
-/
import Derived.Test.YtkajibniibjblaaGreatDoorRead
namespace Go.Proofs.YtkajibniibjblaaGreatDoor
open Go.RowKit
set_option maxRecDepth 100000

theorem from_parts (w : World) (y : Int) (h0 : 0 ≤ y) (h1 : y ≤ 9223372036854775808) :
    Rd (w.alloc (.cells #[.int .u64 (y % 1000000000000000000), .int .u64 (y / 1000000000000000000)] 143)) .u64 (some ⟨w.heap.size, 0, none⟩) 2 2 [y % 1000000000000000000, y / 1000000000000000000] ∧
    Dig [y % 1000000000000000000, y / 1000000000000000000] ∧ val [y % 1000000000000000000, y / 1000000000000000000] = y.natAbs := by
  refine ⟨(OwnS.made w .u64 143 [y % 1000000000000000000, y / 1000000000000000000] (by simp)).rd, ?_, ?_⟩
  · exact Dig.cons.2 ⟨by omega, Dig.cons.2 ⟨by omega, Dig.nil⟩⟩
  · simp only [val]
    omega
theorem from_ms (w : World) (y : Int) (h0 : 0 ≤ y) (h1 : y ≤ 9223372036854775808) (g : Nat) (hg : w.heap.size = g) :
    Ms (w.alloc (.cells #[.int .u64 (y % 1000000000000000000), .int .u64 (y / 1000000000000000000)] 143)) 2 (some ⟨g, 0, none⟩) (tl [y % 1000000000000000000, y / 1000000000000000000]).length 2 y.natAbs := by
  subst hg
  obtain ⟨a, b, c⟩ := from_parts w y h0 h1
  exact ⟨tl_length _, _, a.tl_, Nm.of_dig b c⟩
theorem wrap_neg (z : Int) (h0 : -9223372036854775808 ≤ z) (h1 : z < 0) : IntKind.u64.wrap (-IntKind.u64.wrap z) = -z := by
  simp [IntKind.wrap, IntKind.bits, IntKind.signed]
  omega

theorem from_any (w : World) (z : Int) (h0 : -9223372036854775808 ≤ z) (h1 : z < 9223372036854775808) :
    Calls Tryz.prog 136 #[.int .i64 z] w (RetN w 2 z) := by
  have hb0 : Below w.heap.size w (w.alloc (.cells #[.bool false, .slice none 0 0] 116)) := (Below.refl _ _).alloc (Nat.le_refl _) _
  by_cases hz : z < 0
  · obtain ⟨y, hy⟩ : ∃ y, y = -z := ⟨_, rfl⟩
    have hwr := wrap_neg z h0 hz
    rw [← hy] at hwr
    have hy0 : 0 ≤ y := by omega
    have hy1 : y ≤ 9223372036854775808 := by omega
    have HBL : Hid (true = decide (z < 0)) := by show _ = _; simp [hz]
    have HAB : Hid (z.natAbs = y.natAbs) := by show _ = _; omega
    obtain ⟨hR, _, _⟩ := from_parts (w.alloc (.cells #[.bool false, .slice none 0 0] 116)) y hy0 hy1
    have hsz : (w.alloc (.cells #[.bool false, .slice none 0 0] 116)).heap.size = w.heap.size + 1 := by simp
    rw [hsz] at hR
    obtain ⟨l3, hl3⟩ : ∃ l3, (tl [y % 1000000000000000000, y / 1000000000000000000]).length = l3 := ⟨_, rfl⟩
    clear hy hsz
    go_enter Tryz.func136, Tryz.ntmps136
    go_wp2_with (go_at_call 170; go_must (refine (trim_any _ _ _ _ _ hR).mono ?_; rintro e w3 ⟨rfl, rfl⟩; rw [hl3]))
    refine bodyPost_ret (v := .agg #[.bool true, .slice (some ⟨w.heap.size + 1, 0, none⟩) l3 2]) (by simp [results, Tryz.results136, go_sem]) rfl ⟨_, _, _, _, rfl, HBL, ?_, below_alloc2 _ _ _, ?_⟩
    · have h := from_ms (w.alloc (.cells #[.bool true, .slice (some ⟨w.heap.size + 1, 0, none⟩) l3 2] 116)) y hy0 (by omega) (w.heap.size + 1) (by simp)
      rw [hl3] at h
      first | exact h | (rw [HAB.out]; exact h)
    · exact fun ad e => by injection e with e; rw [← e]; simp
  · have hy0 : 0 ≤ z := by omega
    have HBL : Hid (false = decide (z < 0)) := by show _ = _; simp [hz]
    obtain ⟨hR, _, _⟩ := from_parts (w.alloc (.cells #[.bool false, .slice none 0 0] 116)) z hy0 (by omega)
    have hsz : (w.alloc (.cells #[.bool false, .slice none 0 0] 116)).heap.size = w.heap.size + 1 := by simp
    rw [hsz] at hR
    obtain ⟨l3, hl3⟩ : ∃ l3, (tl [z % 1000000000000000000, z / 1000000000000000000]).length = l3 := ⟨_, rfl⟩
    clear hsz
    go_enter Tryz.func136, Tryz.ntmps136
    go_wp2_with (go_at_call 170; go_must (refine (trim_any _ _ _ _ _ hR).mono ?_; rintro e w3 ⟨rfl, rfl⟩; rw [hl3]))
    refine bodyPost_ret (v := .agg #[.bool false, .slice (some ⟨w.heap.size + 1, 0, none⟩) l3 2]) (by simp [results, Tryz.results136, go_sem]) rfl ⟨_, _, _, _, rfl, HBL, ?_, below_alloc2 _ _ _, ?_⟩
    · have h := from_ms (w.alloc (.cells #[.bool false, .slice (some ⟨w.heap.size + 1, 0, none⟩) l3 2] 116)) z hy0 (by omega) (w.heap.size + 1) (by simp)
      rw [hl3] at h
      first | exact h | (rw [HAB.out]; exact h)
    · exact fun ad e => by injection e with e; rw [← e]; simp

theorem of_any (w : World) (henv : Env w) (z : Int) (h0 : -9223372036854775808 ≤ z) (h1 : z < 9223372036854775808) :
    Calls Tryz.prog 103 #[.int .i64 z] w fun e w' => e = .returned (.string (toldS z)) ∧ Below w.heap.size w w' := by
  go_enter Tryz.func103, Tryz.ntmps103
  go_wp2_with (first
    | (go_at_call 136; go_must (refine (from_any _ z h0 h1).mono ?_; rintro e w1 ⟨bl, A, l, c, rfl, hbl, hms, hb1, _⟩))
    | (go_at_call 89; go_must (refine (told_any _ (henv.below hb1) _ _ _ z _ hbl.out hms (by omega)).mono ?_; rintro e w2 ⟨rfl, hb2⟩)))
  go_ret
  exact ⟨rfl, chain hb1 hb2⟩

end Go.Proofs.YtkajibniibjblaaGreatDoor
