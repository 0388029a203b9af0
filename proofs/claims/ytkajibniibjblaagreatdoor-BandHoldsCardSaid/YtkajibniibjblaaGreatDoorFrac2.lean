/-
  frac: Read, Told.
-/
import Derived.Test.YtkajibniibjblaaGreatDoorFrac
namespace Go.Proofs.YtkajibniibjblaaGreatDoor
open Go.RowKit
set_option maxRecDepth 100000

/-- The two texts of a fraction in lowest terms. -/
structure VQ (N D : ByteArray) (q : Rat) : Prop where
  num : VW N q.num
  den : VW D (q.den : Int)

theorem undrewS {w w' : World} (h : Below w.drew.heap.size w.drew w') : Below w.heap.size w w' := undrew h

theorem readq_any (w : World) (N D : ByteArray) (q : Rat) (h : VQ N D q) :
    Calls Tryz.prog 85 #[.agg #[.string N, .string D]] w (RetQ w 40 q) := by
  have hW : Below w.heap.size w ((w.alloc (.cells #[.string N, .string D] 51)).alloc (.cells #[.bool false, .slice none 0 0, .slice none 0 0] 118)) := (((Below.refl w.heap.size w).alloc (Nat.le_refl _) _).alloc (by simp <;> omega) _)
  have o1 := heap_more (heap_last w (.cells #[.string N, .string D] 51)) (.cells #[.bool false, .slice none 0 0, .slice none 0 0] 118)
  have O1 := Lib.hid o1
  clear o1
  have o2 := heap_last (w.alloc (.cells #[.string N, .string D] 51)) (.cells #[.bool false, .slice none 0 0, .slice none 0 0] 118)
  rw [show (w.alloc (.cells #[.string N, .string D] 51)).heap.size = w.heap.size + 1 by simp] at o2
  have O2 := Lib.hid o2
  clear o2
  have hsz : ((w.alloc (.cells #[.string N, .string D] 51)).alloc (.cells #[.bool false, .slice none 0 0, .slice none 0 0] 118)).heap.size = w.heap.size + 1 + 1 := by simp
  have HSZ := Lib.hid hsz
  clear hsz
  have hf1 := num_field1
  obtain ⟨hN, hD⟩ := h
  go_enter Tryz.func85, Tryz.ntmps85
  go_wp2_with fail
  go_region_law (go_simp; go_at_call 132; refine (read_vw _ (by first | exact hN | exact hD)).mono ?_; rintro e w1 ⟨bl, A, n, c, rfl, hbl, hA, hb1, hfA⟩; first
    | (have hb3 := chain hbF hb1; have y1 := cell_later (j := 0) O2.out hb3; have y2 := cell_later (j := 1) O2.out hb3; have y3 := cell_later (j := 2) O2.out hb3; have g1 := frozen_later O2.out hb3 0; have g2 := frozen_later O2.out hb3 1; have g3 := frozen_later O2.out hb3 2; simp at y1 y2 y3)
    | (have hbF := undrewS hb1; have x2 := cell_later (j := 1) O1.out hbF; simp at x2; obtain ⟨wN, rfl⟩ : ∃ x : World, x = w1 := ⟨_, rfl⟩; obtain ⟨bN, rfl⟩ : ∃ x : Bool, x = bl := ⟨_, rfl⟩; obtain ⟨AN, rfl⟩ : ∃ x : Option Addr, x = A := ⟨_, rfl⟩; obtain ⟨nN, rfl⟩ : ∃ x : Nat, x = n := ⟨_, rfl⟩; obtain ⟨cN, rfl⟩ : ∃ x : Nat, x = c := ⟨_, rfl⟩; have hblN := hbl; have hAN := hA; have hfN := hfA))
  all_goals (
    have hW3 := chain hW hb3
    have hbs := hW3.size
    have hA3 := hAN.below hb1
    rw [Int.natAbs_natCast] at hA
    have HA := Lib.hid hA3
    have HB := Lib.hid hA
    have HF1 : Hid (∀ ad, AN = some ad → w.heap.size + 2 ≤ ad.block) := fun ad e => by have h1 := hfN.out ad e; have h2 := HSZ.out; simp at h1; omega
    have HF2 : Hid (∀ ad, A = some ad → w.heap.size + 2 ≤ ad.block) := fun ad e => by have h1 := hfA.out ad e; have h2 := HSZ.out; have h3 := hbF.size; omega
    clear hA3 hA hfN hfA hAN
    go_wp2_with fail
    refine bodyPost_ret (v := rv bN AN nN cN A n c) (by simp [rv, results, Tryz.results85, go_sem, y1, y2, y3]) rfl ⟨_, _, _, _, _, _, _, rfl, hblN, ?_, ?_, ((hW3.setCell (by simp <;> omega) _).setCell (by simp <;> omega) _).setCell (by simp <;> omega) _, Lib.hid (fun ad e => by have h1 := HF1.out ad e; omega), Lib.hid (fun ad e => by have h1 := HF2.out ad e; omega)⟩
    · have h : ∀ ad, AN = some ad → 0 < nN → ad.block ≠ w.heap.size + 1 := fun ad e _ => by have h1 := HF1.out ad e; omega
      exact ((HA.out.setCell h).setCell h).setCell h
    · have h : ∀ ad, A = some ad → 0 < n → ad.block ≠ w.heap.size + 1 := fun ad e _ => by have h1 := HF2.out ad e; omega
      exact ((HB.out.setCell h).setCell h).setCell h)

end Go.Proofs.YtkajibniibjblaaGreatDoor
