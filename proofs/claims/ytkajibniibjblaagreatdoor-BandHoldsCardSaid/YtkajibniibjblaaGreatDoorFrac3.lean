/-
  frac: Told.
-/
import Derived.Test.YtkajibniibjblaaGreatDoorFrac2
namespace Go.Proofs.YtkajibniibjblaaGreatDoor
open Go.RowKit
set_option maxRecDepth 100000

def fitsQ (q : Rat) : Bool := fits q.num && fits (q.den : Int)
def toldQ (q : Rat) : Value := if fitsQ q then .agg #[.string (toldS q.num), .string (toldS (q.den : Int))] else .agg #[.string ⟨#[]⟩, .string ⟨#[]⟩]
def toldQE (q : Rat) : Int := if fitsQ q then 0 else 6

theorem toldq_any (w : World) (henv : Env w) {L : Nat} (bl : Bool) (A : Option Addr) (n c : Nat) (B : Option Addr) (m d : Nat) (q : Rat) (hbl : Hid (bl = decide (q.num < 0))) (ha : Ms w L A n c q.num.natAbs) (hb : Ms w L B m d q.den) (hL : L ≤ 1000000000000) :
    Calls Tryz.prog 106 #[.agg #[.bool bl, .slice A n c, .slice B m d]] w fun e w' => e = .returned (.tuple #[toldQ q, .int .i64 (toldQE q)]) ∧ Below w.heap.size w w' := by
  have hW : Below w.heap.size w ((w.alloc (.cells #[.bool bl, .slice A n c, .slice B m d] 118)).alloc (.cells #[.string ⟨#[]⟩, .string ⟨#[]⟩] 51)) := (((Below.refl w.heap.size w).alloc (Nat.le_refl _) _).alloc (by simp <;> omega) _)
  have o1 := heap_more (heap_last w (.cells #[.bool bl, .slice A n c, .slice B m d] 118)) (.cells #[.string ⟨#[]⟩, .string ⟨#[]⟩] 51)
  have O1 := Lib.hid o1
  clear o1
  have o2 := heap_last (w.alloc (.cells #[.bool bl, .slice A n c, .slice B m d] 118)) (.cells #[.string ⟨#[]⟩, .string ⟨#[]⟩] 51)
  rw [show (w.alloc (.cells #[.bool bl, .slice A n c, .slice B m d] 118)).heap.size = w.heap.size + 1 by simp] at o2
  have O2 := Lib.hid o2
  clear o2
  have hsz : ((w.alloc (.cells #[.bool bl, .slice A n c, .slice B m d] 118)).alloc (.cells #[.string ⟨#[]⟩, .string ⟨#[]⟩] 51)).heap.size = w.heap.size + 1 + 1 := by simp
  have HSZ := Lib.hid hsz
  clear hsz
  by_cases h1 : fits q.num = true
  · have he1 : toldE q.num = 0 := by rw [toldE, if_pos h1]
    by_cases h2 : fits (q.den : Int) = true
    · have he2 : toldE (q.den : Int) = 0 := by rw [toldE, if_pos h2]
      have HT : Hid (Value.tuple #[toldQ q, .int .i64 (toldQE q)] = .tuple #[.agg #[.string (toldS q.num), .string (toldS (q.den : Int))], .int .i64 0]) := by
        show _ = _; rw [toldQ, toldQE, fitsQ, h1, h2]; rfl
      clear h1 h2
      go_enter Tryz.func106, Tryz.ntmps106
      go_wp2_with fail
      refine (told_any _ (henv.below hW) _ _ _ q.num _ hbl.out (ha.below hW) hL).mono ?_
      rintro e w1 ⟨rfl, hb1⟩
      rw [he1]
      have x2 := cell_later (j := 2) O1.out hb1
      simp at x2
      go_wp2_with fail
      refine (positive_any _ _ _ _).mono ?_
      rintro e w2 ⟨rfl, hb2⟩
      go_wp2_with fail
      refine (told_any _ (((henv.below hW).below hb1).below hb2) _ _ _ (q.den : Int) _ (gcd_side rfl) (by rw [Int.natAbs_natCast]; exact ((hb.below hW).below hb1).below hb2) hL).mono ?_
      rintro e w3 ⟨rfl, hb3⟩
      rw [he2]
      have HB := chain (chain hb1 hb2) hb3
      have hW3 := chain hW HB
      have hbs := hW3.size
      have y1 := cell_later (j := 0) O2.out HB
      have y2 := cell_later (j := 1) O2.out HB
      have g1 := frozen_later O2.out HB 0
      have g2 := frozen_later O2.out HB 1
      simp at y1 y2
      go_wp2
      refine bodyPost_ret (v := .tuple #[.agg #[.string (toldS q.num), .string (toldS (q.den : Int))], .int .i64 0]) (by simp [results, Tryz.results106, go_sem, y1, y2]) rfl ⟨by rw [HT.out], (hW3.setCell (by simp <;> omega) _).setCell (by simp <;> omega) _⟩

    · have he2 : toldE (q.den : Int) = 6 := by rw [toldE, if_neg h2]
      have HT : Hid (Value.tuple #[toldQ q, .int .i64 (toldQE q)] = .tuple #[.agg #[.string ⟨#[]⟩, .string ⟨#[]⟩], .int .i64 6]) := by
        show _ = _; rw [toldQ, toldQE, fitsQ]; simp [h2]
      clear h1 h2
      go_enter Tryz.func106, Tryz.ntmps106
      go_wp2_with fail
      refine (told_any _ (henv.below hW) _ _ _ q.num _ hbl.out (ha.below hW) hL).mono ?_
      rintro e w1 ⟨rfl, hb1⟩
      rw [he1]
      have x2 := cell_later (j := 2) O1.out hb1
      simp at x2
      go_wp2_with fail
      refine (positive_any _ _ _ _).mono ?_
      rintro e w2 ⟨rfl, hb2⟩
      go_wp2_with fail
      refine (told_any _ (((henv.below hW).below hb1).below hb2) _ _ _ (q.den : Int) _ (gcd_side rfl) (by rw [Int.natAbs_natCast]; exact ((hb.below hW).below hb1).below hb2) hL).mono ?_
      rintro e w3 ⟨rfl, hb3⟩
      rw [he2]
      have HB := chain (chain hb1 hb2) hb3
      have hW3 := chain hW HB
      have hbs := hW3.size
      have y1 := cell_later (j := 0) O2.out HB
      have y2 := cell_later (j := 1) O2.out HB
      have g1 := frozen_later O2.out HB 0
      have g2 := frozen_later O2.out HB 1
      simp at y1 y2
      go_wp2
      refine bodyPost_ret (v := .tuple #[.agg #[.string ⟨#[]⟩, .string ⟨#[]⟩], .int .i64 6]) (by simp [results, Tryz.results106, go_sem, y1, y2]) rfl ⟨by rw [HT.out], (hW3.setCell (by simp <;> omega) _).setCell (by simp <;> omega) _⟩

  · have he1 : toldE q.num = 6 := by rw [toldE, if_neg h1]
    have HT : Hid (Value.tuple #[toldQ q, .int .i64 (toldQE q)] = .tuple #[.agg #[.string ⟨#[]⟩, .string ⟨#[]⟩], .int .i64 6]) := by
      show _ = _; rw [toldQ, toldQE, fitsQ]; simp [h1]
    clear h1
    go_enter Tryz.func106, Tryz.ntmps106
    go_wp2_with fail
    refine (told_any _ (henv.below hW) _ _ _ q.num _ hbl.out (ha.below hW) hL).mono ?_
    rintro e w1 ⟨rfl, hb1⟩
    rw [he1]
    have x2 := cell_later (j := 2) O1.out hb1
    simp at x2
    go_wp2_with fail
    refine (positive_any _ _ _ _).mono ?_
    rintro e w2 ⟨rfl, hb2⟩
    go_wp2_with fail
    refine (told_any _ (((henv.below hW).below hb1).below hb2) _ _ _ (q.den : Int) _ (gcd_side rfl) (by rw [Int.natAbs_natCast]; exact ((hb.below hW).below hb1).below hb2) hL).mono ?_
    rintro e w3 ⟨rfl, hb3⟩
    skip
    have HB := chain (chain hb1 hb2) hb3
    have hW3 := chain hW HB
    have hbs := hW3.size
    have y1 := cell_later (j := 0) O2.out HB
    have y2 := cell_later (j := 1) O2.out HB
    have g1 := frozen_later O2.out HB 0
    have g2 := frozen_later O2.out HB 1
    simp at y1 y2
    go_wp2
    refine bodyPost_ret (v := .tuple #[.agg #[.string ⟨#[]⟩, .string ⟨#[]⟩], .int .i64 6]) (by simp [results, Tryz.results106, go_sem, y1, y2]) rfl ⟨by rw [HT.out], (hW3.setCell (by simp <;> omega) _).setCell (by simp <;> omega) _⟩

end Go.Proofs.YtkajibniibjblaaGreatDoor
