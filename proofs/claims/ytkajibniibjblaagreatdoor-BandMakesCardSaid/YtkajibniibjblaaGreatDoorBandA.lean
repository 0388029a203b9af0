/-
  band: Check, fits.
  band: checked.
  band: Of, Neg, Sub.
  band: sides and what it is handed; Add, Min, Max, Hull, Meet.
  band: sides; Add, Min, Max, Hull, Meet.
  band: Meet, Abs, Clamp.
  band: Cmp, Sign, Mid.
-/
import Derived.Test.YtkajibniibjblaaGreatDoorProg
import Derived.Test.YtkajibniibjblaaGreatDoorLaws
import Derived.Test.YtkajibniibjblaaGreatDoorBandMath
import Derived.Lib.Hide
import Derived.Laws.NewBlocks
import Derived.Outline
import Derived.Deep.DeepMust
import Derived.LoopN
import Derived.FnLit
import Derived.Deep.RegionHeld3
import Derived.Laws.EntriesVeiled
namespace Go.Proofs.YtkajibniibjblaaGreatDoor
open Go.RowKit
set_option maxRecDepth 100000

/-- A band as a value; a band with an error number. -/
abbrev bandV (lo hi : Int) : Value := .agg #[.int .i64 lo, .int .i64 hi]
/-- A call returned this band and error number, and made at most new memory. -/
def RetB (w : World) (r : BR) : Ending → World → Prop := fun e w' => e = .returned (.tuple #[bandV r.lo r.hi, .int .i64 r.e]) ∧ Below w.heap.size w w'

theorem bcheck_any (w : World) (lo hi : Int) :
    Calls Tryz.prog 30 #[bandV lo hi] w fun e w' => e = .returned (.int .i64 (chkB lo hi)) ∧ Below w.heap.size w w' := by
  have hB : Below w.heap.size w (w.alloc (.cells #[.int .i64 lo, .int .i64 hi] 23)) := (Below.refl _ _).alloc (Nat.le_refl _) _
  by_cases h1 : lo < -1000000000000000000
  · have he : chkB lo hi = 30 := by rw [chkB, if_neg (by rw [ok_iff]; omega)]
    rw [he]
    have d1 : decide (lo < -1000000000000000000) = true := decide_eq_true h1
    go_enter Tryz.func30, Tryz.ntmps30
    go_wp2
    go_ret
    exact ⟨rfl, hB⟩
  · by_cases h2 : hi < lo
    · have he : chkB lo hi = 30 := by rw [chkB, if_neg (by rw [ok_iff]; omega)]
      rw [he]
      go_enter Tryz.func30, Tryz.ntmps30
      go_wp2
      go_ret
      exact ⟨rfl, hB⟩
    · by_cases h3 : 1000000000000000000 < hi
      · have he : chkB lo hi = 30 := by rw [chkB, if_neg (by rw [ok_iff]; omega)]
        rw [he]
        go_enter Tryz.func30, Tryz.ntmps30
        go_wp2
        go_ret
        exact ⟨rfl, hB⟩
      · have he : chkB lo hi = 0 := by rw [chkB, if_pos ((ok_iff _ _).2 (by omega))]
        rw [he]
        go_enter Tryz.func30, Tryz.ntmps30
        go_wp2
        go_ret
        exact ⟨rfl, hB⟩

theorem fits_any (w : World) (lo hi : Int) : Calls Tryz.prog 65 #[.int .i64 lo, .int .i64 hi] w (RetB w (fitB lo hi)) := by
  have hW : Below w.heap.size w ((w.alloc (.cells #[.int .i64 0, .int .i64 0] 23)).alloc (.cells #[.int .i64 lo, .int .i64 hi] 23)) := (((Below.refl w.heap.size w).alloc (Nat.le_refl _) _).alloc (by simp <;> omega) _)
  have o1 := heap_more (heap_last w (.cells #[.int .i64 0, .int .i64 0] 23)) (.cells #[.int .i64 lo, .int .i64 hi] 23)
  have O1 := Lib.hid o1
  clear o1
  have o2 := heap_last (w.alloc (.cells #[.int .i64 0, .int .i64 0] 23)) (.cells #[.int .i64 lo, .int .i64 hi] 23)
  rw [show (w.alloc (.cells #[.int .i64 0, .int .i64 0] 23)).heap.size = w.heap.size + 1 by simp] at o2
  have O2 := Lib.hid o2
  clear o2
  have hsz : ((w.alloc (.cells #[.int .i64 0, .int .i64 0] 23)).alloc (.cells #[.int .i64 lo, .int .i64 hi] 23)).heap.size = w.heap.size + 1 + 1 := by simp
  have HSZ := Lib.hid hsz
  clear hsz
  rcases fit_cases lo hi with ⟨h, e⟩ | ⟨h, e⟩
  · rw [e]
    have hc : chkB lo hi = 0 := by rw [chkB, if_pos h]
    go_enter Tryz.func65, Tryz.ntmps65
    go_wp2_with fail
    refine (bcheck_any _ _ _).mono ?_
    rintro e w1 ⟨rfl, hb1⟩
    rw [hc]
    have hW1 := chain hW hb1
    have hs := hW1.size
    have y1 := cell_later (j := 0) O2.out hb1
    have y2 := cell_later (j := 1) O2.out hb1
    have y3 := cell_later (j := 0) O1.out hb1
    have y4 := cell_later (j := 1) O1.out hb1
    have g1 := frozen_later O1.out hb1 0
    have g2 := frozen_later O1.out hb1 1
    simp at y1 y2 y3 y4
    go_wp2
    refine bodyPost_ret (v := .tuple #[bandV lo hi, .int .i64 0]) (by simp [results, Tryz.results65, go_sem, y3, y4]) rfl ⟨rfl, (hW1.setCell (by simp <;> omega) _).setCell (by simp <;> omega) _⟩
  · rw [e]
    have hc : chkB lo hi = 30 := by rw [chkB, if_neg h]
    go_enter Tryz.func65, Tryz.ntmps65
    go_wp2_with fail
    refine (bcheck_any _ _ _).mono ?_
    rintro e w1 ⟨rfl, hb1⟩
    rw [hc]
    have hW1 := chain hW hb1
    have hs := hW1.size
    have y3 := cell_later (j := 0) O1.out hb1
    have y4 := cell_later (j := 1) O1.out hb1
    have g1 := frozen_later O1.out hb1 0
    have g2 := frozen_later O1.out hb1 1
    simp at y3 y4
    go_wp2
    refine bodyPost_ret (v := .tuple #[bandV 0 0, .int .i64 6]) (by simp [results, Tryz.results65, go_sem, y3, y4]) rfl ⟨rfl, (hW1.setCell (by simp <;> omega) _).setCell (by simp <;> omega) _⟩

end Go.Proofs.YtkajibniibjblaaGreatDoor

namespace Go.Proofs.YtkajibniibjblaaGreatDoor
open Go.RowKit
set_option maxRecDepth 100000

/-- A block holds these cells. -/
def Blk (w : World) (b : Nat) (cs : Array Value) (T : TypeId) : Prop := w.heap[b]? = some (.cells cs T (0, 0))

/-- k is a function with a body: a call of it enters it. -/
def Enters (k : Nat) : Prop := ∀ (a : Array Value) (w : World), Sem.run Tryz.prog (callFunc k a) w = .ok (.enter k a) w

set_option maxHeartbeats 1000000 in
theorem checked1_any (k : Nat) (hk : Enters k) (cap : Array Value) (w : World) (b : Nat) (x y : Int) (T : TypeId) (hb : Hid (Blk w b #[.int .i64 x, .int .i64 y] T)) (r : BR)
    (hclo : okB x y = true → ∀ w', Below w.heap.size w w' → Calls Tryz.prog k cap w' (RetB w' r)) :
    Calls Tryz.prog 60 #[.func (.func k) #[] cap, .slice (some ⟨b, 0, none⟩) 1 1] w (RetB w (oneB x y r)) := by
  have hlt : b < w.heap.size := (Array.getElem?_eq_some_iff.1 hb.out).1
  have hW : Below w.heap.size w (((w.alloc (.cells #[.int .i64 0, .int .i64 0] 23)).alloc (.cells #[.int .i64 0, .int .i64 0] 23)).alloc (.cells #[.int .i64 x, .int .i64 y] 23)) := ((((Below.refl w.heap.size w).alloc (Nat.le_refl _) _).alloc (by simp <;> omega) _).alloc (by simp <;> omega) _)
  have o1 := heap_more (heap_more (heap_last w (.cells #[.int .i64 0, .int .i64 0] 23)) (.cells #[.int .i64 0, .int .i64 0] 23)) (.cells #[.int .i64 x, .int .i64 y] 23)
  have O1 := Lib.hid o1
  clear o1
  have o2 := heap_more (heap_last (w.alloc (.cells #[.int .i64 0, .int .i64 0] 23)) (.cells #[.int .i64 0, .int .i64 0] 23)) (.cells #[.int .i64 x, .int .i64 y] 23)
  rw [show (w.alloc (.cells #[.int .i64 0, .int .i64 0] 23)).heap.size = w.heap.size + 1 by simp] at o2
  have O2 := Lib.hid o2
  clear o2
  have o3 := heap_last ((w.alloc (.cells #[.int .i64 0, .int .i64 0] 23)).alloc (.cells #[.int .i64 0, .int .i64 0] 23)) (.cells #[.int .i64 x, .int .i64 y] 23)
  rw [show ((w.alloc (.cells #[.int .i64 0, .int .i64 0] 23)).alloc (.cells #[.int .i64 0, .int .i64 0] 23)).heap.size = w.heap.size + 1 + 1 by simp] at o3
  have O3 := Lib.hid o3
  clear o3
  have hsz : (((w.alloc (.cells #[.int .i64 0, .int .i64 0] 23)).alloc (.cells #[.int .i64 0, .int .i64 0] 23)).alloc (.cells #[.int .i64 x, .int .i64 y] 23)).heap.size = w.heap.size + 1 + 1 + 1 := by simp
  have HSZ := Lib.hid hsz
  clear hsz
  have z0 : ((w.alloc (.cells #[.int .i64 0, .int .i64 0] 23)).alloc (.cells #[.int .i64 0, .int .i64 0] 23)).cell? ⟨b, 0, none⟩ = some (.int .i64 x) := cell_later (w1 := w) hb.out (((Below.refl _ _).alloc (Nat.le_refl _) _).alloc (by simp) _)
  have z1 : ((w.alloc (.cells #[.int .i64 0, .int .i64 0] 23)).alloc (.cells #[.int .i64 0, .int .i64 0] 23)).cell? ⟨b, 1, none⟩ = some (.int .i64 y) := cell_later (w1 := w) hb.out (((Below.refl _ _).alloc (Nat.le_refl _) _).alloc (by simp) _)
  by_cases h : okB x y = true
  · rw [one_ok h]
    have hc : chkB x y = 0 := by rw [chkB, if_pos h]
    have HC := Lib.hid (hclo h)
    clear hclo
    go_enter Tryz.func60, Tryz.ntmps60
    go_wp2
    refine wp_loop_rounds 2 ?_
    rw [rounds_succ]
    go_wp2_with fail
    refine (bcheck_any _ _ _).mono ?_
    rintro e w1 ⟨rfl, hb1⟩
    rw [hc]
    go_wp2
    rw [rounds_succ]
    go_wp2
    rw [hk]
    go_wp2_with fail
    have hW1 := chain hW hb1
    refine (HC.out _ hW1).mono ?_
    rintro e w2 ⟨rfl, hb2⟩
    have hb12 := chain hb1 hb2
    have hW2 := chain hW1 hb2
    have hs := hW2.size
    have hs3 := hb12.size
    simp at hs3
    have y3 := cell_later (j := 0) O1.out hb12
    have y4 := cell_later (j := 1) O1.out hb12
    have g1 := frozen_later O1.out hb12 0
    have g2 := frozen_later O1.out hb12 1
    simp at y3 y4
    go_wp2
    refine bodyPost_ret (v := .tuple #[bandV r.lo r.hi, .int .i64 r.e]) (by simp [results, Tryz.results60, go_sem, y3, y4]) rfl ⟨rfl, (hW2.setCell (by simp <;> omega) _).setCell (by simp <;> omega) _⟩
  · have hc : chkB x y = 30 := by rw [chkB, if_neg h]
    have he : oneB x y r = ⟨0, 0, 30⟩ := by rw [oneB, if_neg h]; rfl
    rw [he]
    clear hclo
    go_enter Tryz.func60, Tryz.ntmps60
    go_wp2
    refine wp_loop_rounds 1 ?_
    rw [rounds_succ]
    go_wp2_with fail
    refine (bcheck_any _ _ _).mono ?_
    rintro e w1 ⟨rfl, hb1⟩
    rw [hc]
    have hW1 := chain hW hb1
    have hs := hW1.size
    have hs3 := hb1.size
    simp at hs3
    have x3 := cell_later (j := 0) O2.out hb1
    have x4 := cell_later (j := 1) O2.out hb1
    have y3 := cell_later (j := 0) O1.out hb1
    have y4 := cell_later (j := 1) O1.out hb1
    have g1 := frozen_later O1.out hb1 0
    have g2 := frozen_later O1.out hb1 1
    simp at x3 x4 y3 y4
    go_wp2
    refine bodyPost_ret (v := .tuple #[bandV 0 0, .int .i64 30]) (by simp [results, Tryz.results60, go_sem, y3, y4]) rfl ⟨rfl, (hW1.setCell (by simp <;> omega) _).setCell (by simp <;> omega) _⟩

set_option maxHeartbeats 2000000 in
theorem checked2_any (k : Nat) (hk : Enters k) (cap : Array Value) (w : World) (b : Nat) (x y z t : Int) (T : TypeId) (hb : Hid (Blk w b #[.int .i64 x, .int .i64 y, .int .i64 z, .int .i64 t] T)) (r : BR)
    (hclo : okB x y = true → okB z t = true → ∀ w', Below w.heap.size w w' → Calls Tryz.prog k cap w' (RetB w' r)) :
    Calls Tryz.prog 60 #[.func (.func k) #[] cap, .slice (some ⟨b, 0, none⟩) 2 2] w (RetB w (twoB x y z t r)) := by
  have hlt : b < w.heap.size := (Array.getElem?_eq_some_iff.1 hb.out).1
  have hW : Below w.heap.size w (((w.alloc (.cells #[.int .i64 0, .int .i64 0] 23)).alloc (.cells #[.int .i64 0, .int .i64 0] 23)).alloc (.cells #[.int .i64 x, .int .i64 y] 23)) := ((((Below.refl w.heap.size w).alloc (Nat.le_refl _) _).alloc (by simp <;> omega) _).alloc (by simp <;> omega) _)
  have o1 := heap_more (heap_more (heap_last w (.cells #[.int .i64 0, .int .i64 0] 23)) (.cells #[.int .i64 0, .int .i64 0] 23)) (.cells #[.int .i64 x, .int .i64 y] 23)
  have O1 := Lib.hid o1
  clear o1
  have o2 := heap_more (heap_last (w.alloc (.cells #[.int .i64 0, .int .i64 0] 23)) (.cells #[.int .i64 0, .int .i64 0] 23)) (.cells #[.int .i64 x, .int .i64 y] 23)
  rw [show (w.alloc (.cells #[.int .i64 0, .int .i64 0] 23)).heap.size = w.heap.size + 1 by simp] at o2
  have O2 := Lib.hid o2
  clear o2
  have o3 := heap_last ((w.alloc (.cells #[.int .i64 0, .int .i64 0] 23)).alloc (.cells #[.int .i64 0, .int .i64 0] 23)) (.cells #[.int .i64 x, .int .i64 y] 23)
  rw [show ((w.alloc (.cells #[.int .i64 0, .int .i64 0] 23)).alloc (.cells #[.int .i64 0, .int .i64 0] 23)).heap.size = w.heap.size + 1 + 1 by simp] at o3
  have O3 := Lib.hid o3
  clear o3
  have hsz : (((w.alloc (.cells #[.int .i64 0, .int .i64 0] 23)).alloc (.cells #[.int .i64 0, .int .i64 0] 23)).alloc (.cells #[.int .i64 x, .int .i64 y] 23)).heap.size = w.heap.size + 1 + 1 + 1 := by simp
  have HSZ := Lib.hid hsz
  clear hsz
  have hU : Below w.heap.size w ((w.alloc (.cells #[.int .i64 0, .int .i64 0] 23)).alloc (.cells #[.int .i64 0, .int .i64 0] 23)) := ((Below.refl _ _).alloc (Nat.le_refl _) _).alloc (by simp) _
  have z0 : ((w.alloc (.cells #[.int .i64 0, .int .i64 0] 23)).alloc (.cells #[.int .i64 0, .int .i64 0] 23)).cell? ⟨b, 0, none⟩ = some (.int .i64 x) := cell_later (w1 := w) hb.out hU
  have z1 : ((w.alloc (.cells #[.int .i64 0, .int .i64 0] 23)).alloc (.cells #[.int .i64 0, .int .i64 0] 23)).cell? ⟨b, 1, none⟩ = some (.int .i64 y) := cell_later (w1 := w) hb.out hU
  by_cases h : okB x y = true
  · have hc : chkB x y = 0 := by rw [chkB, if_pos h]
    by_cases h' : okB z t = true
    · have hc' : chkB z t = 0 := by rw [chkB, if_pos h']
      rw [two_ok h h']
      have HC := Lib.hid (hclo h h')
      clear hclo
      go_enter Tryz.func60, Tryz.ntmps60
      go_wp2
      refine wp_loop_rounds 3 ?_
      rw [rounds_succ]
      go_wp2_with fail
      refine (bcheck_any _ _ _).mono ?_
      rintro e w1 ⟨rfl, hb1⟩
      rw [hc]
      have hW1 := chain hW hb1
      have u2 := cell_later (j := 2) hb.out hW1
      have u3 := cell_later (j := 3) hb.out hW1
      simp at u2 u3
      go_wp2
      rw [rounds_succ]
      have oa := heap_last w1 (.cells #[.int .i64 z, .int .i64 t] 23)
      have hWa : Below w1.heap.size w1 (w1.alloc (.cells #[.int .i64 z, .int .i64 t] 23)) := (Below.refl _ _).alloc (Nat.le_refl _) _
      go_wp2_with fail
      refine (bcheck_any _ _ _).mono ?_
      rintro e w2 ⟨rfl, hb2⟩
      rw [hc']
      go_wp2
      rw [rounds_succ]
      go_wp2
      rw [hk]
      go_wp2_with fail
      have hb12 := chain (chain hb1 hWa) hb2
      have hW2 := chain hW hb12
      refine (HC.out _ hW2).mono ?_
      rintro e w3 ⟨rfl, hb3⟩
      have hb13 := chain hb12 hb3
      have hW3 := chain hW2 hb3
      have hs := hW3.size
      have hs3 := hb13.size
      simp at hs3
      have y3 := cell_later (j := 0) O1.out hb13
      have y4 := cell_later (j := 1) O1.out hb13
      have g1 := frozen_later O1.out hb13 0
      have g2 := frozen_later O1.out hb13 1
      simp at y3 y4
      go_wp2
      refine bodyPost_ret (v := .tuple #[bandV r.lo r.hi, .int .i64 r.e]) (by simp [results, Tryz.results60, go_sem, y3, y4]) rfl ⟨rfl, (hW3.setCell (by simp <;> omega) _).setCell (by simp <;> omega) _⟩
    · have hc' : chkB z t = 30 := by rw [chkB, if_neg h']
      have he : twoB x y z t r = ⟨0, 0, 30⟩ := by rw [twoB, if_neg (by simp [h'])]; rfl
      rw [he]
      clear hclo
      go_enter Tryz.func60, Tryz.ntmps60
      go_wp2
      refine wp_loop_rounds 2 ?_
      rw [rounds_succ]
      go_wp2_with fail
      refine (bcheck_any _ _ _).mono ?_
      rintro e w1 ⟨rfl, hb1⟩
      rw [hc]
      have hW1 := chain hW hb1
      have u2 := cell_later (j := 2) hb.out hW1
      have u3 := cell_later (j := 3) hb.out hW1
      simp at u2 u3
      go_wp2
      rw [rounds_succ]
      have oa := heap_last w1 (.cells #[.int .i64 z, .int .i64 t] 23)
      have hWa : Below w1.heap.size w1 (w1.alloc (.cells #[.int .i64 z, .int .i64 t] 23)) := (Below.refl _ _).alloc (Nat.le_refl _) _
      go_wp2_with fail
      refine (bcheck_any _ _ _).mono ?_
      rintro e w2 ⟨rfl, hb2⟩
      rw [hc']
      have hb12 := chain (chain hb1 hWa) hb2
      have hW2 := chain hW hb12
      have hs := hW2.size
      have hs3 := hb12.size
      simp at hs3
      have x3 := cell_later (j := 0) O2.out hb12
      have x4 := cell_later (j := 1) O2.out hb12
      have y3 := cell_later (j := 0) O1.out hb12
      have y4 := cell_later (j := 1) O1.out hb12
      have g1 := frozen_later O1.out hb12 0
      have g2 := frozen_later O1.out hb12 1
      simp at x3 x4 y3 y4
      go_wp2
      refine bodyPost_ret (v := .tuple #[bandV 0 0, .int .i64 30]) (by simp [results, Tryz.results60, go_sem, y3, y4]) rfl ⟨rfl, (hW2.setCell (by simp <;> omega) _).setCell (by simp <;> omega) _⟩
  · have hc : chkB x y = 30 := by rw [chkB, if_neg h]
    have he : twoB x y z t r = ⟨0, 0, 30⟩ := by rw [twoB, if_neg (by simp [h])]; rfl
    rw [he]
    clear hclo
    go_enter Tryz.func60, Tryz.ntmps60
    go_wp2
    refine wp_loop_rounds 1 ?_
    rw [rounds_succ]
    go_wp2_with fail
    refine (bcheck_any _ _ _).mono ?_
    rintro e w1 ⟨rfl, hb1⟩
    rw [hc]
    have hW1 := chain hW hb1
    have hs := hW1.size
    have hs3 := hb1.size
    simp at hs3
    have x3 := cell_later (j := 0) O2.out hb1
    have x4 := cell_later (j := 1) O2.out hb1
    have y3 := cell_later (j := 0) O1.out hb1
    have y4 := cell_later (j := 1) O1.out hb1
    have g1 := frozen_later O1.out hb1 0
    have g2 := frozen_later O1.out hb1 1
    simp at x3 x4 y3 y4
    go_wp2
    refine bodyPost_ret (v := .tuple #[bandV 0 0, .int .i64 30]) (by simp [results, Tryz.results60, go_sem, y3, y4]) rfl ⟨rfl, (hW1.setCell (by simp <;> omega) _).setCell (by simp <;> omega) _⟩

end Go.Proofs.YtkajibniibjblaaGreatDoor

namespace Go.Proofs.YtkajibniibjblaaGreatDoor
open Go.RowKit
set_option maxRecDepth 100000

theorem blk_later {w w' : World} {b : Nat} {o : Obj} (h : w.heap[b]? = some o) (hb : Below w.heap.size w w') : w'.heap[b]? = some o :=
  (hb.block b (Array.getElem?_eq_some_iff.1 h).1).trans h

set_option maxHeartbeats 1000000 in
theorem ofclo_any (w : World) (p : Nat) (Tp : TypeId) (x y : Int) (hp : Hid (Blk w p #[.int .i64 x, .int .i64 y] Tp))  :
    Calls Tryz.prog 75 #[.pointer (some ⟨p, 0, none⟩)] w (RetB w ⟨x, y, 0⟩) := by
  have hW : Below w.heap.size w (w.alloc (.cells #[.int .i64 0, .int .i64 0] 23)) := ((Below.refl w.heap.size w).alloc (Nat.le_refl _) _)
  have o1 := heap_last w (.cells #[.int .i64 0, .int .i64 0] 23)
  have O1 := Lib.hid o1
  clear o1
  have hsz : (w.alloc (.cells #[.int .i64 0, .int .i64 0] 23)).heap.size = w.heap.size + 1 := by simp
  have HSZ := Lib.hid hsz
  clear hsz
  have lp : p < w.heap.size := (Array.getElem?_eq_some_iff.1 hp.out).1
  have cp0 : (w.alloc (.cells #[.int .i64 0, .int .i64 0] 23)).cell? ⟨p, 0, none⟩ = some (.int .i64 x) := cell_later (w1 := w) hp.out ((Below.refl _ _).alloc (Nat.le_refl _) _)
  have cp1 : (w.alloc (.cells #[.int .i64 0, .int .i64 0] 23)).cell? ⟨p, 1, none⟩ = some (.int .i64 y) := cell_later (w1 := w) hp.out ((Below.refl _ _).alloc (Nat.le_refl _) _)
  go_enter Tryz.func75, Tryz.ntmps75
  go_wp2
  refine bodyPost_ret (v := .tuple #[bandV x y, .int .i64 0]) (by simp [results, Tryz.results75, go_sem]) rfl ⟨rfl, ?_⟩
  first
    | exact ((Below.refl _ _).alloc (Nat.le_refl _) _)
    | exact ((((Below.refl _ _).alloc (Nat.le_refl _) _).setCell (by simp) _).setCell (by simp) _)

set_option maxHeartbeats 1000000 in
theorem of_b (w : World) (x y : Int) :
    Calls Tryz.prog 28 #[.int .i64 x, .int .i64 y] w (RetB w (oneB x y ⟨x, y, 0⟩)) := by
  have hmf : ∀ (fn : Fn) (first cap : Array Value) (w : World), (Instr.makeFunc fn first cap).run Tryz.prog w = .ok (.func fn first cap) w := fun _ _ _ _ => rfl
  obtain ⟨r, hr⟩ : ∃ r, oneB x y ⟨x, y, 0⟩ = r := ⟨_, rfl⟩
  rw [hr]
  have HR := Lib.hid hr
  clear hr
  have hW : Below w.heap.size w (((w.alloc (.cells #[.int .i64 0, .int .i64 0] 23)).alloc (.cells #[.int .i64 x, .int .i64 y] 23)).alloc (.cells #[.int .i64 x, .int .i64 y] 23)) := ((((Below.refl w.heap.size w).alloc (Nat.le_refl _) _).alloc (by simp <;> omega) _).alloc (by simp <;> omega) _)
  have o1 := heap_more (heap_more (heap_last w (.cells #[.int .i64 0, .int .i64 0] 23)) (.cells #[.int .i64 x, .int .i64 y] 23)) (.cells #[.int .i64 x, .int .i64 y] 23)
  have O1 := Lib.hid o1
  clear o1
  have o2 := heap_more (heap_last (w.alloc (.cells #[.int .i64 0, .int .i64 0] 23)) (.cells #[.int .i64 x, .int .i64 y] 23)) (.cells #[.int .i64 x, .int .i64 y] 23)
  rw [show (w.alloc (.cells #[.int .i64 0, .int .i64 0] 23)).heap.size = w.heap.size + 1 by simp] at o2
  have O2 := Lib.hid o2
  clear o2
  have o3 := heap_last ((w.alloc (.cells #[.int .i64 0, .int .i64 0] 23)).alloc (.cells #[.int .i64 x, .int .i64 y] 23)) (.cells #[.int .i64 x, .int .i64 y] 23)
  rw [show ((w.alloc (.cells #[.int .i64 0, .int .i64 0] 23)).alloc (.cells #[.int .i64 x, .int .i64 y] 23)).heap.size = w.heap.size + 1 + 1 by simp] at o3
  have O3 := Lib.hid o3
  clear o3
  have hsz : (((w.alloc (.cells #[.int .i64 0, .int .i64 0] 23)).alloc (.cells #[.int .i64 x, .int .i64 y] 23)).alloc (.cells #[.int .i64 x, .int .i64 y] 23)).heap.size = w.heap.size + 1 + 1 + 1 := by simp
  have HSZ := Lib.hid hsz
  clear hsz
  go_enter Tryz.func28, Tryz.ntmps28
  go_wp2_with fail
  refine (checked1_any 75 (fun _ _ => by kernel_rfl) #[.pointer (some ⟨w.heap.size + 1, 0, none⟩)] _ (w.heap.size + 1 + 1) x y 23 (Lib.hid O3.out) ⟨x, y, 0⟩ (fun hok w' hb' => ofclo_any w' _ _ _ _ (Lib.hid (blk_later O2.out hb')))).mono ?_
  rintro e w1 ⟨rfl, hb1⟩
  rw [HR.out]
  have hW1 := chain hW hb1
  have hs := hW1.size
  have y3 := cell_later (j := 0) O1.out hb1
  have y4 := cell_later (j := 1) O1.out hb1
  have g1 := frozen_later O1.out hb1 0
  have g2 := frozen_later O1.out hb1 1
  simp at y3 y4
  go_wp2
  refine bodyPost_ret (v := .tuple #[bandV r.lo r.hi, .int .i64 r.e]) (by simp [results, Tryz.results28, go_sem, y3, y4]) rfl ⟨rfl, (hW1.setCell (by simp <;> omega) _).setCell (by simp <;> omega) _⟩

set_option maxHeartbeats 1000000 in
theorem negclo_any (w : World) (p : Nat) (Tp : TypeId) (x y : Int) (hp : Hid (Blk w p #[.int .i64 x, .int .i64 y] Tp)) (hx : -1000000000000000000 ≤ x) (hxy : x ≤ y) (hy : y ≤ 1000000000000000000) :
    Calls Tryz.prog 64 #[.pointer (some ⟨p, 0, none⟩)] w (RetB w (fitB (-y) (-x))) := by
  obtain ⟨r, hr⟩ : ∃ r, fitB (-y) (-x) = r := ⟨_, rfl⟩
  rw [hr]
  have HR := Lib.hid hr
  clear hr
  have hW : Below w.heap.size w (w.alloc (.cells #[.int .i64 0, .int .i64 0] 23)) := ((Below.refl w.heap.size w).alloc (Nat.le_refl _) _)
  have o1 := heap_last w (.cells #[.int .i64 0, .int .i64 0] 23)
  have O1 := Lib.hid o1
  clear o1
  have hsz : (w.alloc (.cells #[.int .i64 0, .int .i64 0] 23)).heap.size = w.heap.size + 1 := by simp
  have HSZ := Lib.hid hsz
  clear hsz
  have lp : p < w.heap.size := (Array.getElem?_eq_some_iff.1 hp.out).1
  have cp0 : (w.alloc (.cells #[.int .i64 0, .int .i64 0] 23)).cell? ⟨p, 0, none⟩ = some (.int .i64 x) := cell_later (w1 := w) hp.out ((Below.refl _ _).alloc (Nat.le_refl _) _)
  have cp1 : (w.alloc (.cells #[.int .i64 0, .int .i64 0] 23)).cell? ⟨p, 1, none⟩ = some (.int .i64 y) := cell_later (w1 := w) hp.out ((Below.refl _ _).alloc (Nat.le_refl _) _)
  go_enter Tryz.func64, Tryz.ntmps64
  go_wp2_with fail
  refine (fits_any _ (-y) (-x)).mono ?_
  rintro e w1 ⟨rfl, hb1⟩
  rw [HR.out]
  have hW1 := chain hW hb1
  have hs := hW1.size
  have y3 := cell_later (j := 0) O1.out hb1
  have y4 := cell_later (j := 1) O1.out hb1
  have g1 := frozen_later O1.out hb1 0
  have g2 := frozen_later O1.out hb1 1
  simp at y3 y4
  go_wp2
  refine bodyPost_ret (v := .tuple #[bandV r.lo r.hi, .int .i64 r.e]) (by simp [results, Tryz.results64, go_sem, y3, y4]) rfl ⟨rfl, (hW1.setCell (by simp <;> omega) _).setCell (by simp <;> omega) _⟩

set_option maxHeartbeats 1000000 in
theorem neg_b (w : World) (x y : Int) :
    Calls Tryz.prog 13 #[bandV x y] w (RetB w (oneB x y (fitB (-y) (-x)))) := by
  have hmf : ∀ (fn : Fn) (first cap : Array Value) (w : World), (Instr.makeFunc fn first cap).run Tryz.prog w = .ok (.func fn first cap) w := fun _ _ _ _ => rfl
  obtain ⟨r, hr⟩ : ∃ r, oneB x y (fitB (-y) (-x)) = r := ⟨_, rfl⟩
  rw [hr]
  have HR := Lib.hid hr
  clear hr
  have hW : Below w.heap.size w (((w.alloc (.cells #[.int .i64 x, .int .i64 y] 23)).alloc (.cells #[.int .i64 0, .int .i64 0] 23)).alloc (.cells #[.int .i64 x, .int .i64 y] 23)) := ((((Below.refl w.heap.size w).alloc (Nat.le_refl _) _).alloc (by simp <;> omega) _).alloc (by simp <;> omega) _)
  have o1 := heap_more (heap_more (heap_last w (.cells #[.int .i64 x, .int .i64 y] 23)) (.cells #[.int .i64 0, .int .i64 0] 23)) (.cells #[.int .i64 x, .int .i64 y] 23)
  have O1 := Lib.hid o1
  clear o1
  have o2 := heap_more (heap_last (w.alloc (.cells #[.int .i64 x, .int .i64 y] 23)) (.cells #[.int .i64 0, .int .i64 0] 23)) (.cells #[.int .i64 x, .int .i64 y] 23)
  rw [show (w.alloc (.cells #[.int .i64 x, .int .i64 y] 23)).heap.size = w.heap.size + 1 by simp] at o2
  have O2 := Lib.hid o2
  clear o2
  have o3 := heap_last ((w.alloc (.cells #[.int .i64 x, .int .i64 y] 23)).alloc (.cells #[.int .i64 0, .int .i64 0] 23)) (.cells #[.int .i64 x, .int .i64 y] 23)
  rw [show ((w.alloc (.cells #[.int .i64 x, .int .i64 y] 23)).alloc (.cells #[.int .i64 0, .int .i64 0] 23)).heap.size = w.heap.size + 1 + 1 by simp] at o3
  have O3 := Lib.hid o3
  clear o3
  have hsz : (((w.alloc (.cells #[.int .i64 x, .int .i64 y] 23)).alloc (.cells #[.int .i64 0, .int .i64 0] 23)).alloc (.cells #[.int .i64 x, .int .i64 y] 23)).heap.size = w.heap.size + 1 + 1 + 1 := by simp
  have HSZ := Lib.hid hsz
  clear hsz
  go_enter Tryz.func13, Tryz.ntmps13
  go_wp2_with fail
  refine (checked1_any 64 (fun _ _ => by kernel_rfl) #[.pointer (some ⟨w.heap.size, 0, none⟩)] _ (w.heap.size + 1 + 1) x y 23 (Lib.hid O3.out) (fitB (-y) (-x)) (fun hok w' hb' => negclo_any w' _ _ _ _ (Lib.hid (blk_later O1.out hb')) ((ok_iff x y).1 hok).1 ((ok_iff x y).1 hok).2.1 ((ok_iff x y).1 hok).2.2)).mono ?_
  rintro e w1 ⟨rfl, hb1⟩
  rw [HR.out]
  have hW1 := chain hW hb1
  have hs := hW1.size
  have y3 := cell_later (j := 0) O2.out hb1
  have y4 := cell_later (j := 1) O2.out hb1
  have g1 := frozen_later O2.out hb1 0
  have g2 := frozen_later O2.out hb1 1
  simp at y3 y4
  go_wp2
  refine bodyPost_ret (v := .tuple #[bandV r.lo r.hi, .int .i64 r.e]) (by simp [results, Tryz.results13, go_sem, y3, y4]) rfl ⟨rfl, (hW1.setCell (by simp <;> omega) _).setCell (by simp <;> omega) _⟩

set_option maxHeartbeats 1000000 in
theorem subclo_any (w : World) (p : Nat) (Tp : TypeId) (x y : Int) (hp : Hid (Blk w p #[.int .i64 x, .int .i64 y] Tp)) (q : Nat) (Tq : TypeId) (z t : Int) (hq : Hid (Blk w q #[.int .i64 z, .int .i64 t] Tq)) (hx : -1000000000000000000 ≤ x) (hxy : x ≤ y) (hy : y ≤ 1000000000000000000) (hz : -1000000000000000000 ≤ z) (hzt : z ≤ t) (ht : t ≤ 1000000000000000000) :
    Calls Tryz.prog 66 #[.pointer (some ⟨p, 0, none⟩), .pointer (some ⟨q, 0, none⟩)] w (RetB w (fitB (x - t) (y - z))) := by
  obtain ⟨r, hr⟩ : ∃ r, fitB (x - t) (y - z) = r := ⟨_, rfl⟩
  rw [hr]
  have HR := Lib.hid hr
  clear hr
  have hW : Below w.heap.size w (w.alloc (.cells #[.int .i64 0, .int .i64 0] 23)) := ((Below.refl w.heap.size w).alloc (Nat.le_refl _) _)
  have o1 := heap_last w (.cells #[.int .i64 0, .int .i64 0] 23)
  have O1 := Lib.hid o1
  clear o1
  have hsz : (w.alloc (.cells #[.int .i64 0, .int .i64 0] 23)).heap.size = w.heap.size + 1 := by simp
  have HSZ := Lib.hid hsz
  clear hsz
  have lp : p < w.heap.size := (Array.getElem?_eq_some_iff.1 hp.out).1
  have cp0 : (w.alloc (.cells #[.int .i64 0, .int .i64 0] 23)).cell? ⟨p, 0, none⟩ = some (.int .i64 x) := cell_later (w1 := w) hp.out ((Below.refl _ _).alloc (Nat.le_refl _) _)
  have cp1 : (w.alloc (.cells #[.int .i64 0, .int .i64 0] 23)).cell? ⟨p, 1, none⟩ = some (.int .i64 y) := cell_later (w1 := w) hp.out ((Below.refl _ _).alloc (Nat.le_refl _) _)
  have lq : q < w.heap.size := (Array.getElem?_eq_some_iff.1 hq.out).1
  have cq0 : (w.alloc (.cells #[.int .i64 0, .int .i64 0] 23)).cell? ⟨q, 0, none⟩ = some (.int .i64 z) := cell_later (w1 := w) hq.out ((Below.refl _ _).alloc (Nat.le_refl _) _)
  have cq1 : (w.alloc (.cells #[.int .i64 0, .int .i64 0] 23)).cell? ⟨q, 1, none⟩ = some (.int .i64 t) := cell_later (w1 := w) hq.out ((Below.refl _ _).alloc (Nat.le_refl _) _)
  go_enter Tryz.func66, Tryz.ntmps66
  go_wp2_with fail
  refine (fits_any _ (x - t) (y - z)).mono ?_
  rintro e w1 ⟨rfl, hb1⟩
  rw [HR.out]
  have hW1 := chain hW hb1
  have hs := hW1.size
  have y3 := cell_later (j := 0) O1.out hb1
  have y4 := cell_later (j := 1) O1.out hb1
  have g1 := frozen_later O1.out hb1 0
  have g2 := frozen_later O1.out hb1 1
  simp at y3 y4
  go_wp2
  refine bodyPost_ret (v := .tuple #[bandV r.lo r.hi, .int .i64 r.e]) (by simp [results, Tryz.results66, go_sem, y3, y4]) rfl ⟨rfl, (hW1.setCell (by simp <;> omega) _).setCell (by simp <;> omega) _⟩

set_option maxHeartbeats 1000000 in
theorem sub_b (w : World) (x y : Int) (z t : Int) :
    Calls Tryz.prog 14 #[bandV x y, bandV z t] w (RetB w (twoB x y z t (fitB (x - t) (y - z)))) := by
  have hmf : ∀ (fn : Fn) (first cap : Array Value) (w : World), (Instr.makeFunc fn first cap).run Tryz.prog w = .ok (.func fn first cap) w := fun _ _ _ _ => rfl
  obtain ⟨r, hr⟩ : ∃ r, twoB x y z t (fitB (x - t) (y - z)) = r := ⟨_, rfl⟩
  rw [hr]
  have HR := Lib.hid hr
  clear hr
  have hW : Below w.heap.size w ((((w.alloc (.cells #[.int .i64 x, .int .i64 y] 23)).alloc (.cells #[.int .i64 z, .int .i64 t] 23)).alloc (.cells #[.int .i64 0, .int .i64 0] 23)).alloc (.cells #[.int .i64 x, .int .i64 y, .int .i64 z, .int .i64 t] 23)) := (((((Below.refl w.heap.size w).alloc (Nat.le_refl _) _).alloc (by simp <;> omega) _).alloc (by simp <;> omega) _).alloc (by simp <;> omega) _)
  have o1 := heap_more (heap_more (heap_more (heap_last w (.cells #[.int .i64 x, .int .i64 y] 23)) (.cells #[.int .i64 z, .int .i64 t] 23)) (.cells #[.int .i64 0, .int .i64 0] 23)) (.cells #[.int .i64 x, .int .i64 y, .int .i64 z, .int .i64 t] 23)
  have O1 := Lib.hid o1
  clear o1
  have o2 := heap_more (heap_more (heap_last (w.alloc (.cells #[.int .i64 x, .int .i64 y] 23)) (.cells #[.int .i64 z, .int .i64 t] 23)) (.cells #[.int .i64 0, .int .i64 0] 23)) (.cells #[.int .i64 x, .int .i64 y, .int .i64 z, .int .i64 t] 23)
  rw [show (w.alloc (.cells #[.int .i64 x, .int .i64 y] 23)).heap.size = w.heap.size + 1 by simp] at o2
  have O2 := Lib.hid o2
  clear o2
  have o3 := heap_more (heap_last ((w.alloc (.cells #[.int .i64 x, .int .i64 y] 23)).alloc (.cells #[.int .i64 z, .int .i64 t] 23)) (.cells #[.int .i64 0, .int .i64 0] 23)) (.cells #[.int .i64 x, .int .i64 y, .int .i64 z, .int .i64 t] 23)
  rw [show ((w.alloc (.cells #[.int .i64 x, .int .i64 y] 23)).alloc (.cells #[.int .i64 z, .int .i64 t] 23)).heap.size = w.heap.size + 1 + 1 by simp] at o3
  have O3 := Lib.hid o3
  clear o3
  have o4 := heap_last (((w.alloc (.cells #[.int .i64 x, .int .i64 y] 23)).alloc (.cells #[.int .i64 z, .int .i64 t] 23)).alloc (.cells #[.int .i64 0, .int .i64 0] 23)) (.cells #[.int .i64 x, .int .i64 y, .int .i64 z, .int .i64 t] 23)
  rw [show (((w.alloc (.cells #[.int .i64 x, .int .i64 y] 23)).alloc (.cells #[.int .i64 z, .int .i64 t] 23)).alloc (.cells #[.int .i64 0, .int .i64 0] 23)).heap.size = w.heap.size + 1 + 1 + 1 by simp] at o4
  have O4 := Lib.hid o4
  clear o4
  have hsz : ((((w.alloc (.cells #[.int .i64 x, .int .i64 y] 23)).alloc (.cells #[.int .i64 z, .int .i64 t] 23)).alloc (.cells #[.int .i64 0, .int .i64 0] 23)).alloc (.cells #[.int .i64 x, .int .i64 y, .int .i64 z, .int .i64 t] 23)).heap.size = w.heap.size + 1 + 1 + 1 + 1 := by simp
  have HSZ := Lib.hid hsz
  clear hsz
  go_enter Tryz.func14, Tryz.ntmps14
  go_wp2_with fail
  refine (checked2_any 66 (fun _ _ => by kernel_rfl) #[.pointer (some ⟨w.heap.size, 0, none⟩), .pointer (some ⟨w.heap.size + 1, 0, none⟩)] _ (w.heap.size + 1 + 1 + 1) x y z t 23 (Lib.hid O4.out) (fitB (x - t) (y - z)) (fun hok hok' w' hb' => subclo_any w' _ _ _ _ (Lib.hid (blk_later O1.out hb')) _ _ _ _ (Lib.hid (blk_later O2.out hb')) ((ok_iff x y).1 hok).1 ((ok_iff x y).1 hok).2.1 ((ok_iff x y).1 hok).2.2 ((ok_iff z t).1 hok').1 ((ok_iff z t).1 hok').2.1 ((ok_iff z t).1 hok').2.2)).mono ?_
  rintro e w1 ⟨rfl, hb1⟩
  rw [HR.out]
  have hW1 := chain hW hb1
  have hs := hW1.size
  have y3 := cell_later (j := 0) O3.out hb1
  have y4 := cell_later (j := 1) O3.out hb1
  have g1 := frozen_later O3.out hb1 0
  have g2 := frozen_later O3.out hb1 1
  simp at y3 y4
  go_wp2
  refine bodyPost_ret (v := .tuple #[bandV r.lo r.hi, .int .i64 r.e]) (by simp [results, Tryz.results14, go_sem, y3, y4]) rfl ⟨rfl, (hW1.setCell (by simp <;> omega) _).setCell (by simp <;> omega) _⟩

end Go.Proofs.YtkajibniibjblaaGreatDoor

namespace Go.Proofs.YtkajibniibjblaaGreatDoor
open Go.RowKit
set_option maxRecDepth 100000

theorem undrewS {w w' : World} (h : Below w.drew.heap.size w.drew w') : Below w.heap.size w w' := undrew h

/-- A function of two integers that returns n at x, z. -/
abbrev Gives2 (k : Nat) (x z n : Int) (w : World) : Prop := ∀ w', Below w.heap.size w w' → Calls Tryz.prog k #[.int .i64 x, .int .i64 z] w' fun e w'' => e = .returned (.int .i64 n) ∧ Below w'.heap.size w' w''

set_option maxHeartbeats 2000000 in
theorem sidesclo_any (w : World) (kl kh : Nat) (hkl : Enters kl) (hkh : Enters kh) (p pa pb q : Nat) (Tp Ta Tb Tq : TypeId) (x y z t lo hi : Int)
    (hp : Hid (Blk w p #[.func (.func kl) #[] #[]] Tp)) (ha : Hid (Blk w pa #[.int .i64 x, .int .i64 y] Ta)) (hb : Hid (Blk w pb #[.int .i64 z, .int .i64 t] Tb)) (hq : Hid (Blk w q #[.func (.func kh) #[] #[]] Tq))
    (hl : Hid (Gives2 kl x z lo w)) (hh : Hid (Gives2 kh y t hi w)) :
    Calls Tryz.prog 115 #[.pointer (some ⟨p, 0, none⟩), .pointer (some ⟨pa, 0, none⟩), .pointer (some ⟨pb, 0, none⟩), .pointer (some ⟨q, 0, none⟩)] w (RetB w (fitB lo hi)) := by
  obtain ⟨r, hr⟩ : ∃ r, fitB lo hi = r := ⟨_, rfl⟩
  rw [hr]
  have HR := Lib.hid hr
  clear hr
  have hW : Below w.heap.size w (w.alloc (.cells #[.int .i64 0, .int .i64 0] 23)) := ((Below.refl w.heap.size w).alloc (Nat.le_refl _) _)
  have o1 := heap_last w (.cells #[.int .i64 0, .int .i64 0] 23)
  have O1 := Lib.hid o1
  clear o1
  have hsz : (w.alloc (.cells #[.int .i64 0, .int .i64 0] 23)).heap.size = w.heap.size + 1 := by simp
  have HSZ := Lib.hid hsz
  clear hsz
  have HS : Hid (∀ w', Below w.heap.size w w' → w'.cell? ⟨p, 0, none⟩ = some (.func (.func kl) #[] #[]) ∧ w'.cell? ⟨pa, 0, none⟩ = some (.int .i64 x) ∧ w'.cell? ⟨pb, 0, none⟩ = some (.int .i64 z) ∧ w'.cell? ⟨q, 0, none⟩ = some (.func (.func kh) #[] #[]) ∧ w'.cell? ⟨pa, 1, none⟩ = some (.int .i64 y) ∧ w'.cell? ⟨pb, 1, none⟩ = some (.int .i64 t)) :=
    fun w' h => ⟨cell_later hp.out h, cell_later ha.out h, cell_later hb.out h, cell_later hq.out h, cell_later ha.out h, cell_later hb.out h⟩
  have hU : Below w.heap.size w (w.alloc (.cells #[.int .i64 0, .int .i64 0] 23)).drew := hW.drew
  have h1 : ∀ (a : Array Value) (w : World), Sem.run Tryz.prog (callFunc kl a) w = .ok (.enter kl a) w := hkl
  have h2 : ∀ (a : Array Value) (w : World), Sem.run Tryz.prog (callFunc kh a) w = .ok (.enter kh a) w := hkh
  go_enter Tryz.func115, Tryz.ntmps115
  go_wp2_with fail
  go_region_held3 (fun w' => w'.cell? ⟨p, 0, none⟩ = some (.func (.func kl) #[] #[]) ∧ w'.cell? ⟨pa, 0, none⟩ = some (.int .i64 x) ∧ w'.cell? ⟨pb, 0, none⟩ = some (.int .i64 z) ∧ w'.cell? ⟨q, 0, none⟩ = some (.func (.func kh) #[] #[]) ∧ w'.cell? ⟨pa, 1, none⟩ = some (.int .i64 y) ∧ w'.cell? ⟨pb, 1, none⟩ = some (.int .i64 t))
    (first | exact HS.out _ ((hc3.setCell (by simp <;> omega) _).setCell (by simp <;> omega) _) | exact HS.out _ hc3 | exact HS.out _ hc2 | exact HS.out _ hc1 | exact HS.out _ hU)
    (first
      | ((with_reducible refine (hl.out _ hU).mono ?_); rintro e w1 ⟨rfl, hb1⟩; have hc1 := chain hU hb1)
      | ((with_reducible refine (hh.out _ hc1).mono ?_); rintro e w2 ⟨rfl, hb2⟩; have hc2 := chain hc1 hb2)
      | ((refine (fits_any _ lo hi).mono ?_); rintro e w3 ⟨rfl, hb3⟩; rw [HR.out]; have hc3 := chain hc2 hb3; have hbW := chain (chain (undrewS hb1) hb2) hb3; have hW3 := chain hW hbW; have hs := hW3.size; have y3 := cell_later (j := 0) O1.out hbW; have y4 := cell_later (j := 1) O1.out hbW; have g1 := frozen_later O1.out hbW 0; have g2 := frozen_later O1.out hbW 1; simp at y3 y4))
  go_wp2
  refine bodyPost_ret (v := .tuple #[bandV r.lo r.hi, .int .i64 r.e]) (by simp [results, Tryz.results115, go_sem, y3, y4]) rfl ⟨rfl, (hW3.setCell (by simp <;> omega) _).setCell (by simp <;> omega) _⟩

end Go.Proofs.YtkajibniibjblaaGreatDoor

namespace Go.Proofs.YtkajibniibjblaaGreatDoor
open Go.RowKit
set_option maxRecDepth 100000

theorem cell_at {w1 w2 : World} {b j B : Nat} {cs : Array Value} {T : TypeId} (h : w1.heap[b]? = some (.cells cs T (0, 0))) (hB : b < B) (hb : Below B w1 w2) : w2.cell? ⟨b, j, none⟩ = cs[j]? := by
  rw [hb.cell (p := ⟨b, j, none⟩) hB]
  simp [World.cell?, h]

theorem plus_side (w : World) : Calls Tryz.prog 57 #[] w fun e w' => e = .returned (.agg #[.func (.func 116) #[] #[]]) ∧ Below w.heap.size w w' := by
  go_enter Tryz.func57, Tryz.ntmps57
  go_wp2
  refine bodyPost_ret (v := .agg #[.func (.func 116) #[] #[]]) (by simp [results, Tryz.results57, go_sem]) rfl ⟨rfl, ?_⟩
  first
    | exact ((Below.refl _ _).alloc (Nat.le_refl _) _)
    | exact ((((Below.refl _ _).alloc (Nat.le_refl _) _).setCell (by simp) _))

theorem least_side (w : World) : Calls Tryz.prog 67 #[] w fun e w' => e = .returned (.agg #[.func (.func 120) #[] #[]]) ∧ Below w.heap.size w w' := by
  go_enter Tryz.func67, Tryz.ntmps67
  go_wp2
  refine bodyPost_ret (v := .agg #[.func (.func 120) #[] #[]]) (by simp [results, Tryz.results67, go_sem]) rfl ⟨rfl, ?_⟩
  first
    | exact ((Below.refl _ _).alloc (Nat.le_refl _) _)
    | exact ((((Below.refl _ _).alloc (Nat.le_refl _) _).setCell (by simp) _))

theorem most_side (w : World) : Calls Tryz.prog 68 #[] w fun e w' => e = .returned (.agg #[.func (.func 121) #[] #[]]) ∧ Below w.heap.size w w' := by
  go_enter Tryz.func68, Tryz.ntmps68
  go_wp2
  refine bodyPost_ret (v := .agg #[.func (.func 121) #[] #[]]) (by simp [results, Tryz.results68, go_sem]) rfl ⟨rfl, ?_⟩
  first
    | exact ((Below.refl _ _).alloc (Nat.le_refl _) _)
    | exact ((((Below.refl _ _).alloc (Nat.le_refl _) _).setCell (by simp) _))

theorem plusclo_any (w : World) (x z : Int) (h1 : -1000000000000000000 ≤ x) (h2 : x ≤ 1000000000000000000) (h3 : -1000000000000000000 ≤ z) (h4 : z ≤ 1000000000000000000) :
    Calls Tryz.prog 116 #[.int .i64 x, .int .i64 z] w fun e w' => e = .returned (.int .i64 (x + z)) ∧ Below w.heap.size w w' := by
  go_enter Tryz.func116, Tryz.ntmps116
  go_wp2
  go_ret
  exact ⟨rfl, Below.refl _ _⟩

theorem leastclo_any (w : World) (x z : Int) :
    Calls Tryz.prog 120 #[.int .i64 x, .int .i64 z] w fun e w' => e = .returned (.int .i64 (min x z)) ∧ Below w.heap.size w w' := by
  go_enter Tryz.func120, Tryz.ntmps120
  go_wp2
  all_goals go_ret
  all_goals exact ⟨ret_eq (congrArg (Value.int .i64) (by omega)), Below.refl _ _⟩

theorem mostclo_any (w : World) (x z : Int) :
    Calls Tryz.prog 121 #[.int .i64 x, .int .i64 z] w fun e w' => e = .returned (.int .i64 (max x z)) ∧ Below w.heap.size w w' := by
  go_enter Tryz.func121, Tryz.ntmps121
  go_wp2
  all_goals go_ret
  all_goals exact ⟨ret_eq (congrArg (Value.int .i64) (by omega)), Below.refl _ _⟩

set_option maxHeartbeats 2000000 in
theorem sides_any (w : World) (x y z t lo hi : Int) (kl kh : Nat) (hkl : Hid (Enters kl)) (hkh : Hid (Enters kh))
    (hl : okB x y = true → okB z t = true → ∀ w', Gives2 kl x z lo w') (hh : okB x y = true → okB z t = true → ∀ w', Gives2 kh y t hi w') :
    Calls Tryz.prog 56 #[bandV x y, bandV z t, .agg #[.func (.func kl) #[] #[]], .agg #[.func (.func kh) #[] #[]]] w (RetB w (twoB x y z t (fitB lo hi))) := by
  have hmf : ∀ (fn : Fn) (first cap : Array Value) (w : World), (Instr.makeFunc fn first cap).run Tryz.prog w = .ok (.func fn first cap) w := fun _ _ _ _ => rfl
  have HL := Lib.hid hl
  have HH := Lib.hid hh
  clear hl hh
  obtain ⟨r, hr⟩ : ∃ r, twoB x y z t (fitB lo hi) = r := ⟨_, rfl⟩
  rw [hr]
  have HR := Lib.hid hr
  clear hr
  have hW : Below w.heap.size w ((((((w.alloc (.cells #[.int .i64 x, .int .i64 y] 23)).alloc (.cells #[.int .i64 z, .int .i64 t] 23)).alloc (.cells #[.func (.func kl) #[] #[]] 84)).alloc (.cells #[.func (.func kh) #[] #[]] 84)).alloc (.cells #[.int .i64 0, .int .i64 0] 23)).alloc (.cells #[.int .i64 x, .int .i64 y, .int .i64 z, .int .i64 t] 23)) := (((((((Below.refl w.heap.size w).alloc (Nat.le_refl _) _).alloc (by simp <;> omega) _).alloc (by simp <;> omega) _).alloc (by simp <;> omega) _).alloc (by simp <;> omega) _).alloc (by simp <;> omega) _)
  have o1 := heap_more (heap_more (heap_more (heap_more (heap_more (heap_last w (.cells #[.int .i64 x, .int .i64 y] 23)) (.cells #[.int .i64 z, .int .i64 t] 23)) (.cells #[.func (.func kl) #[] #[]] 84)) (.cells #[.func (.func kh) #[] #[]] 84)) (.cells #[.int .i64 0, .int .i64 0] 23)) (.cells #[.int .i64 x, .int .i64 y, .int .i64 z, .int .i64 t] 23)
  have O1 := Lib.hid o1
  clear o1
  have o2 := heap_more (heap_more (heap_more (heap_more (heap_last (w.alloc (.cells #[.int .i64 x, .int .i64 y] 23)) (.cells #[.int .i64 z, .int .i64 t] 23)) (.cells #[.func (.func kl) #[] #[]] 84)) (.cells #[.func (.func kh) #[] #[]] 84)) (.cells #[.int .i64 0, .int .i64 0] 23)) (.cells #[.int .i64 x, .int .i64 y, .int .i64 z, .int .i64 t] 23)
  rw [show (w.alloc (.cells #[.int .i64 x, .int .i64 y] 23)).heap.size = w.heap.size + 1 by simp] at o2
  have O2 := Lib.hid o2
  clear o2
  have o3 := heap_more (heap_more (heap_more (heap_last ((w.alloc (.cells #[.int .i64 x, .int .i64 y] 23)).alloc (.cells #[.int .i64 z, .int .i64 t] 23)) (.cells #[.func (.func kl) #[] #[]] 84)) (.cells #[.func (.func kh) #[] #[]] 84)) (.cells #[.int .i64 0, .int .i64 0] 23)) (.cells #[.int .i64 x, .int .i64 y, .int .i64 z, .int .i64 t] 23)
  rw [show ((w.alloc (.cells #[.int .i64 x, .int .i64 y] 23)).alloc (.cells #[.int .i64 z, .int .i64 t] 23)).heap.size = w.heap.size + 1 + 1 by simp] at o3
  have O3 := Lib.hid o3
  clear o3
  have o4 := heap_more (heap_more (heap_last (((w.alloc (.cells #[.int .i64 x, .int .i64 y] 23)).alloc (.cells #[.int .i64 z, .int .i64 t] 23)).alloc (.cells #[.func (.func kl) #[] #[]] 84)) (.cells #[.func (.func kh) #[] #[]] 84)) (.cells #[.int .i64 0, .int .i64 0] 23)) (.cells #[.int .i64 x, .int .i64 y, .int .i64 z, .int .i64 t] 23)
  rw [show (((w.alloc (.cells #[.int .i64 x, .int .i64 y] 23)).alloc (.cells #[.int .i64 z, .int .i64 t] 23)).alloc (.cells #[.func (.func kl) #[] #[]] 84)).heap.size = w.heap.size + 1 + 1 + 1 by simp] at o4
  have O4 := Lib.hid o4
  clear o4
  have o5 := heap_more (heap_last ((((w.alloc (.cells #[.int .i64 x, .int .i64 y] 23)).alloc (.cells #[.int .i64 z, .int .i64 t] 23)).alloc (.cells #[.func (.func kl) #[] #[]] 84)).alloc (.cells #[.func (.func kh) #[] #[]] 84)) (.cells #[.int .i64 0, .int .i64 0] 23)) (.cells #[.int .i64 x, .int .i64 y, .int .i64 z, .int .i64 t] 23)
  rw [show ((((w.alloc (.cells #[.int .i64 x, .int .i64 y] 23)).alloc (.cells #[.int .i64 z, .int .i64 t] 23)).alloc (.cells #[.func (.func kl) #[] #[]] 84)).alloc (.cells #[.func (.func kh) #[] #[]] 84)).heap.size = w.heap.size + 1 + 1 + 1 + 1 by simp] at o5
  have O5 := Lib.hid o5
  clear o5
  have o6 := heap_last (((((w.alloc (.cells #[.int .i64 x, .int .i64 y] 23)).alloc (.cells #[.int .i64 z, .int .i64 t] 23)).alloc (.cells #[.func (.func kl) #[] #[]] 84)).alloc (.cells #[.func (.func kh) #[] #[]] 84)).alloc (.cells #[.int .i64 0, .int .i64 0] 23)) (.cells #[.int .i64 x, .int .i64 y, .int .i64 z, .int .i64 t] 23)
  rw [show (((((w.alloc (.cells #[.int .i64 x, .int .i64 y] 23)).alloc (.cells #[.int .i64 z, .int .i64 t] 23)).alloc (.cells #[.func (.func kl) #[] #[]] 84)).alloc (.cells #[.func (.func kh) #[] #[]] 84)).alloc (.cells #[.int .i64 0, .int .i64 0] 23)).heap.size = w.heap.size + 1 + 1 + 1 + 1 + 1 by simp] at o6
  have O6 := Lib.hid o6
  clear o6
  have hsz : ((((((w.alloc (.cells #[.int .i64 x, .int .i64 y] 23)).alloc (.cells #[.int .i64 z, .int .i64 t] 23)).alloc (.cells #[.func (.func kl) #[] #[]] 84)).alloc (.cells #[.func (.func kh) #[] #[]] 84)).alloc (.cells #[.int .i64 0, .int .i64 0] 23)).alloc (.cells #[.int .i64 x, .int .i64 y, .int .i64 z, .int .i64 t] 23)).heap.size = w.heap.size + 1 + 1 + 1 + 1 + 1 + 1 := by simp
  have HSZ := Lib.hid hsz
  clear hsz
  go_enter Tryz.func56, Tryz.ntmps56
  go_wp2_with fail
  refine (checked2_any 115 (fun _ _ => by kernel_rfl) #[.pointer (some ⟨w.heap.size + 1 + 1, 0, none⟩), .pointer (some ⟨w.heap.size, 0, none⟩), .pointer (some ⟨w.heap.size + 1, 0, none⟩), .pointer (some ⟨w.heap.size + 1 + 1 + 1, 0, none⟩)] _ (w.heap.size + 1 + 1 + 1 + 1 + 1) x y z t 23 (Lib.hid O6.out) (fitB lo hi) (fun hok hok' w' hb' => sidesclo_any w' kl kh hkl.out hkh.out _ _ _ _ _ _ _ _ _ _ _ _ _ _ (Lib.hid (blk_later O3.out hb')) (Lib.hid (blk_later O1.out hb')) (Lib.hid (blk_later O2.out hb')) (Lib.hid (blk_later O4.out hb')) (Lib.hid (HL.out hok hok' _)) (Lib.hid (HH.out hok hok' _)))).mono ?_
  rintro e w1 ⟨rfl, hb1⟩
  rw [HR.out]
  have hW1 := chain hW hb1
  have hs := hW1.size
  have y3 := cell_later (j := 0) O5.out hb1
  have y4 := cell_later (j := 1) O5.out hb1
  have g1 := frozen_later O5.out hb1 0
  have g2 := frozen_later O5.out hb1 1
  simp at y3 y4
  go_wp2
  refine bodyPost_ret (v := .tuple #[bandV r.lo r.hi, .int .i64 r.e]) (by simp [results, Tryz.results56, go_sem, y3, y4]) rfl ⟨rfl, (hW1.setCell (by simp <;> omega) _).setCell (by simp <;> omega) _⟩

set_option maxHeartbeats 2000000 in
theorem add_b (w : World) (x y z t : Int) : Calls Tryz.prog 11 #[bandV x y, bandV z t] w (RetB w (addB x y z t)) := by
  obtain ⟨r, hr⟩ : ∃ r, addB x y z t = r := ⟨_, rfl⟩
  rw [hr]
  have HR := Lib.hid hr
  clear hr
  have HR' : Hid (twoB x y z t (fitB (x + z) (y + t)) = r) := HR
  have hW : Below w.heap.size w (((w.alloc (.cells #[.int .i64 x, .int .i64 y] 23)).alloc (.cells #[.int .i64 z, .int .i64 t] 23)).alloc (.cells #[.int .i64 0, .int .i64 0] 23)) := ((((Below.refl w.heap.size w).alloc (Nat.le_refl _) _).alloc (by simp <;> omega) _).alloc (by simp <;> omega) _)
  have o1 := heap_more (heap_more (heap_last w (.cells #[.int .i64 x, .int .i64 y] 23)) (.cells #[.int .i64 z, .int .i64 t] 23)) (.cells #[.int .i64 0, .int .i64 0] 23)
  have O1 := Lib.hid o1
  clear o1
  have o2 := heap_more (heap_last (w.alloc (.cells #[.int .i64 x, .int .i64 y] 23)) (.cells #[.int .i64 z, .int .i64 t] 23)) (.cells #[.int .i64 0, .int .i64 0] 23)
  rw [show (w.alloc (.cells #[.int .i64 x, .int .i64 y] 23)).heap.size = w.heap.size + 1 by simp] at o2
  have O2 := Lib.hid o2
  clear o2
  have o3 := heap_last ((w.alloc (.cells #[.int .i64 x, .int .i64 y] 23)).alloc (.cells #[.int .i64 z, .int .i64 t] 23)) (.cells #[.int .i64 0, .int .i64 0] 23)
  rw [show ((w.alloc (.cells #[.int .i64 x, .int .i64 y] 23)).alloc (.cells #[.int .i64 z, .int .i64 t] 23)).heap.size = w.heap.size + 1 + 1 by simp] at o3
  have O3 := Lib.hid o3
  clear o3
  have hsz : (((w.alloc (.cells #[.int .i64 x, .int .i64 y] 23)).alloc (.cells #[.int .i64 z, .int .i64 t] 23)).alloc (.cells #[.int .i64 0, .int .i64 0] 23)).heap.size = w.heap.size + 1 + 1 + 1 := by simp
  have HSZ := Lib.hid hsz
  clear hsz
  have HS : Hid (∀ w', Below (w.heap.size + 1 + 1) (((w.alloc (.cells #[.int .i64 x, .int .i64 y] 23)).alloc (.cells #[.int .i64 z, .int .i64 t] 23)).alloc (.cells #[.int .i64 0, .int .i64 0] 23)) w' → w'.cell? ⟨w.heap.size, 0, none⟩ = some (.int .i64 x) ∧ w'.cell? ⟨w.heap.size, 1, none⟩ = some (.int .i64 y) ∧ w'.cell? ⟨w.heap.size + 1, 0, none⟩ = some (.int .i64 z) ∧ w'.cell? ⟨w.heap.size + 1, 1, none⟩ = some (.int .i64 t)) := fun w' h => ⟨cell_at O1.out (by omega) h, cell_at O1.out (by omega) h, cell_at O2.out (by omega) h, cell_at O2.out (by omega) h⟩
  have hU : Below (((w.alloc (.cells #[.int .i64 x, .int .i64 y] 23)).alloc (.cells #[.int .i64 z, .int .i64 t] 23)).alloc (.cells #[.int .i64 0, .int .i64 0] 23)).heap.size (((w.alloc (.cells #[.int .i64 x, .int .i64 y] 23)).alloc (.cells #[.int .i64 z, .int .i64 t] 23)).alloc (.cells #[.int .i64 0, .int .i64 0] 23)) (((w.alloc (.cells #[.int .i64 x, .int .i64 y] 23)).alloc (.cells #[.int .i64 z, .int .i64 t] 23)).alloc (.cells #[.int .i64 0, .int .i64 0] 23)).drew := (Below.refl _ _).drew
  go_enter Tryz.func11, Tryz.ntmps11
  go_wp2_with fail
  go_region_held3 (fun w' => w'.cell? ⟨w.heap.size, 0, none⟩ = some (.int .i64 x) ∧ w'.cell? ⟨w.heap.size, 1, none⟩ = some (.int .i64 y) ∧ w'.cell? ⟨w.heap.size + 1, 0, none⟩ = some (.int .i64 z) ∧ w'.cell? ⟨w.heap.size + 1, 1, none⟩ = some (.int .i64 t))
    (first | exact HS.out _ (((hc3.mono (by simp)).setCell (by simp) _).setCell (by simp) _) | exact HS.out _ (hc3.mono (by simp)) | exact HS.out _ (hc2.mono (by simp)) | exact HS.out _ (hc1.mono (by simp)) | exact HS.out _ (hU.mono (by simp)))
    (first
      | (go_at_call 56; (refine (sides_any _ x y z t (x + z) (y + t) 116 116 (Lib.hid (fun _ _ => by kernel_rfl)) (Lib.hid (fun _ _ => by kernel_rfl)) (fun hok hok' _ w' _ => plusclo_any w' x z (by have h1 := (ok_iff x y).1 hok; omega) (by have h1 := (ok_iff x y).1 hok; omega) (by have h1 := (ok_iff z t).1 hok'; omega) (by have h1 := (ok_iff z t).1 hok'; omega)) (fun hok hok' _ w' _ => plusclo_any w' y t (by have h1 := (ok_iff x y).1 hok; omega) (by have h1 := (ok_iff x y).1 hok; omega) (by have h1 := (ok_iff z t).1 hok'; omega) (by have h1 := (ok_iff z t).1 hok'; omega))).mono ?_); rintro e w3 ⟨rfl, hb3⟩; rw [HR'.out]; have hc3 := chain hc2 hb3; have hW3 := chain hW hc3; have hs := hW3.size; have y3 := cell_later (j := 0) O3.out hc3; have y4 := cell_later (j := 1) O3.out hc3; have g1 := frozen_later O3.out hc3 0; have g2 := frozen_later O3.out hc3 1; simp at y3 y4)
      | ((with_reducible refine (plus_side (((w.alloc (.cells #[.int .i64 x, .int .i64 y] 23)).alloc (.cells #[.int .i64 z, .int .i64 t] 23)).alloc (.cells #[.int .i64 0, .int .i64 0] 23)).drew).mono ?_); rintro e w1 ⟨rfl, hb1⟩; have hc1 := undrewS hb1)
      | ((with_reducible refine (plus_side w1).mono ?_); rintro e w2 ⟨rfl, hb2⟩; have hc2 := chain hc1 hb2))
  go_wp2
  refine bodyPost_ret (v := .tuple #[bandV r.lo r.hi, .int .i64 r.e]) (by simp [results, Tryz.results11, go_sem, y3, y4]) rfl ⟨rfl, (hW3.setCell (by simp <;> omega) _).setCell (by simp <;> omega) _⟩

set_option maxHeartbeats 2000000 in
theorem min_b (w : World) (x y z t : Int) : Calls Tryz.prog 24 #[bandV x y, bandV z t] w (RetB w (minB x y z t)) := by
  obtain ⟨r, hr⟩ : ∃ r, minB x y z t = r := ⟨_, rfl⟩
  rw [hr]
  have HR := Lib.hid hr
  clear hr
  have HR' : Hid (twoB x y z t (fitB (min x z) (min y t)) = r) := HR
  have hW : Below w.heap.size w (((w.alloc (.cells #[.int .i64 x, .int .i64 y] 23)).alloc (.cells #[.int .i64 z, .int .i64 t] 23)).alloc (.cells #[.int .i64 0, .int .i64 0] 23)) := ((((Below.refl w.heap.size w).alloc (Nat.le_refl _) _).alloc (by simp <;> omega) _).alloc (by simp <;> omega) _)
  have o1 := heap_more (heap_more (heap_last w (.cells #[.int .i64 x, .int .i64 y] 23)) (.cells #[.int .i64 z, .int .i64 t] 23)) (.cells #[.int .i64 0, .int .i64 0] 23)
  have O1 := Lib.hid o1
  clear o1
  have o2 := heap_more (heap_last (w.alloc (.cells #[.int .i64 x, .int .i64 y] 23)) (.cells #[.int .i64 z, .int .i64 t] 23)) (.cells #[.int .i64 0, .int .i64 0] 23)
  rw [show (w.alloc (.cells #[.int .i64 x, .int .i64 y] 23)).heap.size = w.heap.size + 1 by simp] at o2
  have O2 := Lib.hid o2
  clear o2
  have o3 := heap_last ((w.alloc (.cells #[.int .i64 x, .int .i64 y] 23)).alloc (.cells #[.int .i64 z, .int .i64 t] 23)) (.cells #[.int .i64 0, .int .i64 0] 23)
  rw [show ((w.alloc (.cells #[.int .i64 x, .int .i64 y] 23)).alloc (.cells #[.int .i64 z, .int .i64 t] 23)).heap.size = w.heap.size + 1 + 1 by simp] at o3
  have O3 := Lib.hid o3
  clear o3
  have hsz : (((w.alloc (.cells #[.int .i64 x, .int .i64 y] 23)).alloc (.cells #[.int .i64 z, .int .i64 t] 23)).alloc (.cells #[.int .i64 0, .int .i64 0] 23)).heap.size = w.heap.size + 1 + 1 + 1 := by simp
  have HSZ := Lib.hid hsz
  clear hsz
  have HS : Hid (∀ w', Below (w.heap.size + 1 + 1) (((w.alloc (.cells #[.int .i64 x, .int .i64 y] 23)).alloc (.cells #[.int .i64 z, .int .i64 t] 23)).alloc (.cells #[.int .i64 0, .int .i64 0] 23)) w' → w'.cell? ⟨w.heap.size, 0, none⟩ = some (.int .i64 x) ∧ w'.cell? ⟨w.heap.size, 1, none⟩ = some (.int .i64 y) ∧ w'.cell? ⟨w.heap.size + 1, 0, none⟩ = some (.int .i64 z) ∧ w'.cell? ⟨w.heap.size + 1, 1, none⟩ = some (.int .i64 t)) := fun w' h => ⟨cell_at O1.out (by omega) h, cell_at O1.out (by omega) h, cell_at O2.out (by omega) h, cell_at O2.out (by omega) h⟩
  have hU : Below (((w.alloc (.cells #[.int .i64 x, .int .i64 y] 23)).alloc (.cells #[.int .i64 z, .int .i64 t] 23)).alloc (.cells #[.int .i64 0, .int .i64 0] 23)).heap.size (((w.alloc (.cells #[.int .i64 x, .int .i64 y] 23)).alloc (.cells #[.int .i64 z, .int .i64 t] 23)).alloc (.cells #[.int .i64 0, .int .i64 0] 23)) (((w.alloc (.cells #[.int .i64 x, .int .i64 y] 23)).alloc (.cells #[.int .i64 z, .int .i64 t] 23)).alloc (.cells #[.int .i64 0, .int .i64 0] 23)).drew := (Below.refl _ _).drew
  go_enter Tryz.func24, Tryz.ntmps24
  go_wp2_with fail
  go_region_held3 (fun w' => w'.cell? ⟨w.heap.size, 0, none⟩ = some (.int .i64 x) ∧ w'.cell? ⟨w.heap.size, 1, none⟩ = some (.int .i64 y) ∧ w'.cell? ⟨w.heap.size + 1, 0, none⟩ = some (.int .i64 z) ∧ w'.cell? ⟨w.heap.size + 1, 1, none⟩ = some (.int .i64 t))
    (first | exact HS.out _ (((hc3.mono (by simp)).setCell (by simp) _).setCell (by simp) _) | exact HS.out _ (hc3.mono (by simp)) | exact HS.out _ (hc2.mono (by simp)) | exact HS.out _ (hc1.mono (by simp)) | exact HS.out _ (hU.mono (by simp)))
    (first
      | (go_at_call 56; (refine (sides_any _ x y z t (min x z) (min y t) 120 120 (Lib.hid (fun _ _ => by kernel_rfl)) (Lib.hid (fun _ _ => by kernel_rfl)) (fun _ _ _ w' _ => leastclo_any w' x z) (fun _ _ _ w' _ => leastclo_any w' y t)).mono ?_); rintro e w3 ⟨rfl, hb3⟩; rw [HR'.out]; have hc3 := chain hc2 hb3; have hW3 := chain hW hc3; have hs := hW3.size; have y3 := cell_later (j := 0) O3.out hc3; have y4 := cell_later (j := 1) O3.out hc3; have g1 := frozen_later O3.out hc3 0; have g2 := frozen_later O3.out hc3 1; simp at y3 y4)
      | ((with_reducible refine (least_side (((w.alloc (.cells #[.int .i64 x, .int .i64 y] 23)).alloc (.cells #[.int .i64 z, .int .i64 t] 23)).alloc (.cells #[.int .i64 0, .int .i64 0] 23)).drew).mono ?_); rintro e w1 ⟨rfl, hb1⟩; have hc1 := undrewS hb1)
      | ((with_reducible refine (least_side w1).mono ?_); rintro e w2 ⟨rfl, hb2⟩; have hc2 := chain hc1 hb2))
  go_wp2
  refine bodyPost_ret (v := .tuple #[bandV r.lo r.hi, .int .i64 r.e]) (by simp [results, Tryz.results24, go_sem, y3, y4]) rfl ⟨rfl, (hW3.setCell (by simp <;> omega) _).setCell (by simp <;> omega) _⟩

set_option maxHeartbeats 2000000 in
theorem max_b (w : World) (x y z t : Int) : Calls Tryz.prog 25 #[bandV x y, bandV z t] w (RetB w (maxB x y z t)) := by
  obtain ⟨r, hr⟩ : ∃ r, maxB x y z t = r := ⟨_, rfl⟩
  rw [hr]
  have HR := Lib.hid hr
  clear hr
  have HR' : Hid (twoB x y z t (fitB (max x z) (max y t)) = r) := HR
  have hW : Below w.heap.size w (((w.alloc (.cells #[.int .i64 x, .int .i64 y] 23)).alloc (.cells #[.int .i64 z, .int .i64 t] 23)).alloc (.cells #[.int .i64 0, .int .i64 0] 23)) := ((((Below.refl w.heap.size w).alloc (Nat.le_refl _) _).alloc (by simp <;> omega) _).alloc (by simp <;> omega) _)
  have o1 := heap_more (heap_more (heap_last w (.cells #[.int .i64 x, .int .i64 y] 23)) (.cells #[.int .i64 z, .int .i64 t] 23)) (.cells #[.int .i64 0, .int .i64 0] 23)
  have O1 := Lib.hid o1
  clear o1
  have o2 := heap_more (heap_last (w.alloc (.cells #[.int .i64 x, .int .i64 y] 23)) (.cells #[.int .i64 z, .int .i64 t] 23)) (.cells #[.int .i64 0, .int .i64 0] 23)
  rw [show (w.alloc (.cells #[.int .i64 x, .int .i64 y] 23)).heap.size = w.heap.size + 1 by simp] at o2
  have O2 := Lib.hid o2
  clear o2
  have o3 := heap_last ((w.alloc (.cells #[.int .i64 x, .int .i64 y] 23)).alloc (.cells #[.int .i64 z, .int .i64 t] 23)) (.cells #[.int .i64 0, .int .i64 0] 23)
  rw [show ((w.alloc (.cells #[.int .i64 x, .int .i64 y] 23)).alloc (.cells #[.int .i64 z, .int .i64 t] 23)).heap.size = w.heap.size + 1 + 1 by simp] at o3
  have O3 := Lib.hid o3
  clear o3
  have hsz : (((w.alloc (.cells #[.int .i64 x, .int .i64 y] 23)).alloc (.cells #[.int .i64 z, .int .i64 t] 23)).alloc (.cells #[.int .i64 0, .int .i64 0] 23)).heap.size = w.heap.size + 1 + 1 + 1 := by simp
  have HSZ := Lib.hid hsz
  clear hsz
  have HS : Hid (∀ w', Below (w.heap.size + 1 + 1) (((w.alloc (.cells #[.int .i64 x, .int .i64 y] 23)).alloc (.cells #[.int .i64 z, .int .i64 t] 23)).alloc (.cells #[.int .i64 0, .int .i64 0] 23)) w' → w'.cell? ⟨w.heap.size, 0, none⟩ = some (.int .i64 x) ∧ w'.cell? ⟨w.heap.size, 1, none⟩ = some (.int .i64 y) ∧ w'.cell? ⟨w.heap.size + 1, 0, none⟩ = some (.int .i64 z) ∧ w'.cell? ⟨w.heap.size + 1, 1, none⟩ = some (.int .i64 t)) := fun w' h => ⟨cell_at O1.out (by omega) h, cell_at O1.out (by omega) h, cell_at O2.out (by omega) h, cell_at O2.out (by omega) h⟩
  have hU : Below (((w.alloc (.cells #[.int .i64 x, .int .i64 y] 23)).alloc (.cells #[.int .i64 z, .int .i64 t] 23)).alloc (.cells #[.int .i64 0, .int .i64 0] 23)).heap.size (((w.alloc (.cells #[.int .i64 x, .int .i64 y] 23)).alloc (.cells #[.int .i64 z, .int .i64 t] 23)).alloc (.cells #[.int .i64 0, .int .i64 0] 23)) (((w.alloc (.cells #[.int .i64 x, .int .i64 y] 23)).alloc (.cells #[.int .i64 z, .int .i64 t] 23)).alloc (.cells #[.int .i64 0, .int .i64 0] 23)).drew := (Below.refl _ _).drew
  go_enter Tryz.func25, Tryz.ntmps25
  go_wp2_with fail
  go_region_held3 (fun w' => w'.cell? ⟨w.heap.size, 0, none⟩ = some (.int .i64 x) ∧ w'.cell? ⟨w.heap.size, 1, none⟩ = some (.int .i64 y) ∧ w'.cell? ⟨w.heap.size + 1, 0, none⟩ = some (.int .i64 z) ∧ w'.cell? ⟨w.heap.size + 1, 1, none⟩ = some (.int .i64 t))
    (first | exact HS.out _ (((hc3.mono (by simp)).setCell (by simp) _).setCell (by simp) _) | exact HS.out _ (hc3.mono (by simp)) | exact HS.out _ (hc2.mono (by simp)) | exact HS.out _ (hc1.mono (by simp)) | exact HS.out _ (hU.mono (by simp)))
    (first
      | (go_at_call 56; (refine (sides_any _ x y z t (max x z) (max y t) 121 121 (Lib.hid (fun _ _ => by kernel_rfl)) (Lib.hid (fun _ _ => by kernel_rfl)) (fun _ _ _ w' _ => mostclo_any w' x z) (fun _ _ _ w' _ => mostclo_any w' y t)).mono ?_); rintro e w3 ⟨rfl, hb3⟩; rw [HR'.out]; have hc3 := chain hc2 hb3; have hW3 := chain hW hc3; have hs := hW3.size; have y3 := cell_later (j := 0) O3.out hc3; have y4 := cell_later (j := 1) O3.out hc3; have g1 := frozen_later O3.out hc3 0; have g2 := frozen_later O3.out hc3 1; simp at y3 y4)
      | ((with_reducible refine (most_side (((w.alloc (.cells #[.int .i64 x, .int .i64 y] 23)).alloc (.cells #[.int .i64 z, .int .i64 t] 23)).alloc (.cells #[.int .i64 0, .int .i64 0] 23)).drew).mono ?_); rintro e w1 ⟨rfl, hb1⟩; have hc1 := undrewS hb1)
      | ((with_reducible refine (most_side w1).mono ?_); rintro e w2 ⟨rfl, hb2⟩; have hc2 := chain hc1 hb2))
  go_wp2
  refine bodyPost_ret (v := .tuple #[bandV r.lo r.hi, .int .i64 r.e]) (by simp [results, Tryz.results25, go_sem, y3, y4]) rfl ⟨rfl, (hW3.setCell (by simp <;> omega) _).setCell (by simp <;> omega) _⟩

set_option maxHeartbeats 2000000 in
theorem hull_b (w : World) (x y z t : Int) : Calls Tryz.prog 15 #[bandV x y, bandV z t] w (RetB w (hullB x y z t)) := by
  obtain ⟨r, hr⟩ : ∃ r, hullB x y z t = r := ⟨_, rfl⟩
  rw [hr]
  have HR := Lib.hid hr
  clear hr
  have HR' : Hid (twoB x y z t (fitB (min x z) (max y t)) = r) := HR
  have hW : Below w.heap.size w (((w.alloc (.cells #[.int .i64 x, .int .i64 y] 23)).alloc (.cells #[.int .i64 z, .int .i64 t] 23)).alloc (.cells #[.int .i64 0, .int .i64 0] 23)) := ((((Below.refl w.heap.size w).alloc (Nat.le_refl _) _).alloc (by simp <;> omega) _).alloc (by simp <;> omega) _)
  have o1 := heap_more (heap_more (heap_last w (.cells #[.int .i64 x, .int .i64 y] 23)) (.cells #[.int .i64 z, .int .i64 t] 23)) (.cells #[.int .i64 0, .int .i64 0] 23)
  have O1 := Lib.hid o1
  clear o1
  have o2 := heap_more (heap_last (w.alloc (.cells #[.int .i64 x, .int .i64 y] 23)) (.cells #[.int .i64 z, .int .i64 t] 23)) (.cells #[.int .i64 0, .int .i64 0] 23)
  rw [show (w.alloc (.cells #[.int .i64 x, .int .i64 y] 23)).heap.size = w.heap.size + 1 by simp] at o2
  have O2 := Lib.hid o2
  clear o2
  have o3 := heap_last ((w.alloc (.cells #[.int .i64 x, .int .i64 y] 23)).alloc (.cells #[.int .i64 z, .int .i64 t] 23)) (.cells #[.int .i64 0, .int .i64 0] 23)
  rw [show ((w.alloc (.cells #[.int .i64 x, .int .i64 y] 23)).alloc (.cells #[.int .i64 z, .int .i64 t] 23)).heap.size = w.heap.size + 1 + 1 by simp] at o3
  have O3 := Lib.hid o3
  clear o3
  have hsz : (((w.alloc (.cells #[.int .i64 x, .int .i64 y] 23)).alloc (.cells #[.int .i64 z, .int .i64 t] 23)).alloc (.cells #[.int .i64 0, .int .i64 0] 23)).heap.size = w.heap.size + 1 + 1 + 1 := by simp
  have HSZ := Lib.hid hsz
  clear hsz
  have HS : Hid (∀ w', Below (w.heap.size + 1 + 1) (((w.alloc (.cells #[.int .i64 x, .int .i64 y] 23)).alloc (.cells #[.int .i64 z, .int .i64 t] 23)).alloc (.cells #[.int .i64 0, .int .i64 0] 23)) w' → w'.cell? ⟨w.heap.size, 0, none⟩ = some (.int .i64 x) ∧ w'.cell? ⟨w.heap.size, 1, none⟩ = some (.int .i64 y) ∧ w'.cell? ⟨w.heap.size + 1, 0, none⟩ = some (.int .i64 z) ∧ w'.cell? ⟨w.heap.size + 1, 1, none⟩ = some (.int .i64 t)) := fun w' h => ⟨cell_at O1.out (by omega) h, cell_at O1.out (by omega) h, cell_at O2.out (by omega) h, cell_at O2.out (by omega) h⟩
  have hU : Below (((w.alloc (.cells #[.int .i64 x, .int .i64 y] 23)).alloc (.cells #[.int .i64 z, .int .i64 t] 23)).alloc (.cells #[.int .i64 0, .int .i64 0] 23)).heap.size (((w.alloc (.cells #[.int .i64 x, .int .i64 y] 23)).alloc (.cells #[.int .i64 z, .int .i64 t] 23)).alloc (.cells #[.int .i64 0, .int .i64 0] 23)) (((w.alloc (.cells #[.int .i64 x, .int .i64 y] 23)).alloc (.cells #[.int .i64 z, .int .i64 t] 23)).alloc (.cells #[.int .i64 0, .int .i64 0] 23)).drew := (Below.refl _ _).drew
  go_enter Tryz.func15, Tryz.ntmps15
  go_wp2_with fail
  go_region_held3 (fun w' => w'.cell? ⟨w.heap.size, 0, none⟩ = some (.int .i64 x) ∧ w'.cell? ⟨w.heap.size, 1, none⟩ = some (.int .i64 y) ∧ w'.cell? ⟨w.heap.size + 1, 0, none⟩ = some (.int .i64 z) ∧ w'.cell? ⟨w.heap.size + 1, 1, none⟩ = some (.int .i64 t))
    (first | exact HS.out _ (((hc3.mono (by simp)).setCell (by simp) _).setCell (by simp) _) | exact HS.out _ (hc3.mono (by simp)) | exact HS.out _ (hc2.mono (by simp)) | exact HS.out _ (hc1.mono (by simp)) | exact HS.out _ (hU.mono (by simp)))
    (first
      | (go_at_call 56; (refine (sides_any _ x y z t (min x z) (max y t) 120 121 (Lib.hid (fun _ _ => by kernel_rfl)) (Lib.hid (fun _ _ => by kernel_rfl)) (fun _ _ _ w' _ => leastclo_any w' x z) (fun _ _ _ w' _ => mostclo_any w' y t)).mono ?_); rintro e w3 ⟨rfl, hb3⟩; rw [HR'.out]; have hc3 := chain hc2 hb3; have hW3 := chain hW hc3; have hs := hW3.size; have y3 := cell_later (j := 0) O3.out hc3; have y4 := cell_later (j := 1) O3.out hc3; have g1 := frozen_later O3.out hc3 0; have g2 := frozen_later O3.out hc3 1; simp at y3 y4)
      | ((with_reducible refine (least_side (((w.alloc (.cells #[.int .i64 x, .int .i64 y] 23)).alloc (.cells #[.int .i64 z, .int .i64 t] 23)).alloc (.cells #[.int .i64 0, .int .i64 0] 23)).drew).mono ?_); rintro e w1 ⟨rfl, hb1⟩; have hc1 := undrewS hb1)
      | ((with_reducible refine (most_side w1).mono ?_); rintro e w2 ⟨rfl, hb2⟩; have hc2 := chain hc1 hb2))
  go_wp2
  refine bodyPost_ret (v := .tuple #[bandV r.lo r.hi, .int .i64 r.e]) (by simp [results, Tryz.results15, go_sem, y3, y4]) rfl ⟨rfl, (hW3.setCell (by simp <;> omega) _).setCell (by simp <;> omega) _⟩

end Go.Proofs.YtkajibniibjblaaGreatDoor

namespace Go.Proofs.YtkajibniibjblaaGreatDoor
open Go.RowKit
set_option maxRecDepth 100000

theorem run_max3 (w : World) (ts : Array TypeId) (t : TypeId) (x y z : Int) : Sem.run Tryz.prog (Builtin.max_ ts t #[.int .i64 x, .int .i64 y, .int .i64 z]) w = .ok (.int .i64 (max (max x y) z)) w := by
  have e1 : (if y > x then y else x) = max x y := by omega
  have e2 : (if z > max x y then z else max x y) = max (max x y) z := by omega
  simp [Builtin.max_, Builtin.max2, e1, e2]

theorem run_max2 (w : World) (ts : Array TypeId) (t : TypeId) (x y : Int) : Sem.run Tryz.prog (Builtin.max_ ts t #[.int .i64 x, .int .i64 y]) w = .ok (.int .i64 (max x y)) w := by
  have e1 : (if y > x then y else x) = max x y := by omega
  simp [Builtin.max_, Builtin.max2, e1]

theorem run_min2 (w : World) (ts : Array TypeId) (t : TypeId) (x y : Int) : Sem.run Tryz.prog (Builtin.min_ ts t #[.int .i64 x, .int .i64 y]) w = .ok (.int .i64 (min x y)) w := by
  have e1 : (if y < x then y else x) = min x y := by omega
  simp [Builtin.min_, Builtin.min2, e1]

theorem absclo_any (w : World) (p : Nat) (Tp : TypeId) (x y : Int) (hp : Hid (Blk w p #[.int .i64 x, .int .i64 y] Tp)) (hx : -1000000000000000000 ≤ x) (hxy : x ≤ y) (hy : y ≤ 1000000000000000000) :
    Calls Tryz.prog 112 #[.pointer (some ⟨p, 0, none⟩)] w (RetB w (fitB (max x (max (-y) 0)) (max y (-x)))) := by
  have hm3 := fun w ts t x y z => run_max3 w ts t x y z
  have hm2 := fun w ts t x y => run_max2 w ts t x y
  have hn2 := fun w ts t x y => run_min2 w ts t x y
  obtain ⟨r, hr⟩ : ∃ r, fitB (max x (max (-y) 0)) (max y (-x)) = r := ⟨_, rfl⟩
  rw [hr]
  have HR := Lib.hid hr
  clear hr
  have hW : Below w.heap.size w (w.alloc (.cells #[.int .i64 0, .int .i64 0] 23)) := ((Below.refl w.heap.size w).alloc (Nat.le_refl _) _)
  have o1 := heap_last w (.cells #[.int .i64 0, .int .i64 0] 23)
  have O1 := Lib.hid o1
  clear o1
  have hsz : (w.alloc (.cells #[.int .i64 0, .int .i64 0] 23)).heap.size = w.heap.size + 1 := by simp
  have HSZ := Lib.hid hsz
  clear hsz
  have lp : p < w.heap.size := (Array.getElem?_eq_some_iff.1 hp.out).1
  have cp0 : (w.alloc (.cells #[.int .i64 0, .int .i64 0] 23)).cell? ⟨p, 0, none⟩ = some (.int .i64 x) := cell_later (w1 := w) hp.out ((Below.refl _ _).alloc (Nat.le_refl _) _)
  have cp1 : (w.alloc (.cells #[.int .i64 0, .int .i64 0] 23)).cell? ⟨p, 1, none⟩ = some (.int .i64 y) := cell_later (w1 := w) hp.out ((Below.refl _ _).alloc (Nat.le_refl _) _)
  go_enter Tryz.func112, Tryz.ntmps112
  go_wp2_with fail
  refine (fits_any _ (max x (max (-y) 0)) (max y (-x))).mono ?_
  rintro e w1 ⟨rfl, hb1⟩
  rw [HR.out]
  have hW1 := chain hW hb1
  have hs := hW1.size
  have y3 := cell_later (j := 0) O1.out hb1
  have y4 := cell_later (j := 1) O1.out hb1
  have g1 := frozen_later O1.out hb1 0
  have g2 := frozen_later O1.out hb1 1
  simp at y3 y4
  go_wp2
  refine bodyPost_ret (v := .tuple #[bandV r.lo r.hi, .int .i64 r.e]) (by simp [results, Tryz.results112, go_sem, y3, y4]) rfl ⟨rfl, (hW1.setCell (by simp <;> omega) _).setCell (by simp <;> omega) _⟩

theorem abs_b (w : World) (x y : Int) :
    Calls Tryz.prog 52 #[bandV x y] w (RetB w (oneB x y (fitB (max x (max (-y) 0)) (max y (-x))))) := by
  have hmf : ∀ (fn : Fn) (first cap : Array Value) (w : World), (Instr.makeFunc fn first cap).run Tryz.prog w = .ok (.func fn first cap) w := fun _ _ _ _ => rfl
  obtain ⟨r, hr⟩ : ∃ r, oneB x y (fitB (max x (max (-y) 0)) (max y (-x))) = r := ⟨_, rfl⟩
  rw [hr]
  have HR := Lib.hid hr
  clear hr
  have hW : Below w.heap.size w (((w.alloc (.cells #[.int .i64 x, .int .i64 y] 23)).alloc (.cells #[.int .i64 0, .int .i64 0] 23)).alloc (.cells #[.int .i64 x, .int .i64 y] 23)) := ((((Below.refl w.heap.size w).alloc (Nat.le_refl _) _).alloc (by simp <;> omega) _).alloc (by simp <;> omega) _)
  have o1 := heap_more (heap_more (heap_last w (.cells #[.int .i64 x, .int .i64 y] 23)) (.cells #[.int .i64 0, .int .i64 0] 23)) (.cells #[.int .i64 x, .int .i64 y] 23)
  have O1 := Lib.hid o1
  clear o1
  have o2 := heap_more (heap_last (w.alloc (.cells #[.int .i64 x, .int .i64 y] 23)) (.cells #[.int .i64 0, .int .i64 0] 23)) (.cells #[.int .i64 x, .int .i64 y] 23)
  rw [show (w.alloc (.cells #[.int .i64 x, .int .i64 y] 23)).heap.size = w.heap.size + 1 by simp] at o2
  have O2 := Lib.hid o2
  clear o2
  have o3 := heap_last ((w.alloc (.cells #[.int .i64 x, .int .i64 y] 23)).alloc (.cells #[.int .i64 0, .int .i64 0] 23)) (.cells #[.int .i64 x, .int .i64 y] 23)
  rw [show ((w.alloc (.cells #[.int .i64 x, .int .i64 y] 23)).alloc (.cells #[.int .i64 0, .int .i64 0] 23)).heap.size = w.heap.size + 1 + 1 by simp] at o3
  have O3 := Lib.hid o3
  clear o3
  have hsz : (((w.alloc (.cells #[.int .i64 x, .int .i64 y] 23)).alloc (.cells #[.int .i64 0, .int .i64 0] 23)).alloc (.cells #[.int .i64 x, .int .i64 y] 23)).heap.size = w.heap.size + 1 + 1 + 1 := by simp
  have HSZ := Lib.hid hsz
  clear hsz
  go_enter Tryz.func52, Tryz.ntmps52
  go_wp2_with fail
  refine (checked1_any 112 (fun _ _ => by kernel_rfl) #[.pointer (some ⟨w.heap.size, 0, none⟩)] _ (w.heap.size + 1 + 1) x y 23 (Lib.hid O3.out) (fitB (max x (max (-y) 0)) (max y (-x))) (fun hok w' hb' => absclo_any w' _ _ _ _ (Lib.hid (blk_later O1.out hb')) ((ok_iff x y).1 hok).1 ((ok_iff x y).1 hok).2.1 ((ok_iff x y).1 hok).2.2)).mono ?_
  rintro e w1 ⟨rfl, hb1⟩
  rw [HR.out]
  have hW1 := chain hW hb1
  have hs := hW1.size
  have y3 := cell_later (j := 0) O2.out hb1
  have y4 := cell_later (j := 1) O2.out hb1
  have g1 := frozen_later O2.out hb1 0
  have g2 := frozen_later O2.out hb1 1
  simp at y3 y4
  go_wp2
  refine bodyPost_ret (v := .tuple #[bandV r.lo r.hi, .int .i64 r.e]) (by simp [results, Tryz.results52, go_sem, y3, y4]) rfl ⟨rfl, (hW1.setCell (by simp <;> omega) _).setCell (by simp <;> omega) _⟩

theorem clampclo_any (w : World) (p : Nat) (Tp : TypeId) (l h : Int) (hp : Hid (Blk w p #[.int .i64 l, .int .i64 h] Tp)) (q : Nat) (Tq : TypeId) (x y : Int) (hq : Hid (Blk w q #[.int .i64 x, .int .i64 y] Tq)) (pl : Nat) (Tl : TypeId) (hpl : Hid (Blk w pl #[.int .i64 l] Tl)) (ph : Nat) (Th : TypeId) (hph : Hid (Blk w ph #[.int .i64 h] Th)) :
    Calls Tryz.prog 71 #[.pointer (some ⟨p, 0, none⟩), .pointer (some ⟨q, 0, none⟩), .pointer (some ⟨pl, 0, none⟩), .pointer (some ⟨ph, 0, none⟩)] w (RetB w (if okB l h then fitB (min (max x l) h) (min (max y l) h) else .bad 2)) := by
  have hm3 := fun w ts t x y z => run_max3 w ts t x y z
  have hm2 := fun w ts t x y => run_max2 w ts t x y
  have hn2 := fun w ts t x y => run_min2 w ts t x y
  have lp : p < w.heap.size := (Array.getElem?_eq_some_iff.1 hp.out).1
  have e0 : (w.alloc (.cells #[.int .i64 0, .int .i64 0] 23)).cell? ⟨p, 0, none⟩ = some (.int .i64 l) := cell_later (w1 := w) hp.out ((Below.refl _ _).alloc (Nat.le_refl _) _)
  have e1 : (w.alloc (.cells #[.int .i64 0, .int .i64 0] 23)).cell? ⟨p, 1, none⟩ = some (.int .i64 h) := cell_later (w1 := w) hp.out ((Below.refl _ _).alloc (Nat.le_refl _) _)
  have hW : Below w.heap.size w (w.alloc (.cells #[.int .i64 0, .int .i64 0] 23)) := ((Below.refl w.heap.size w).alloc (Nat.le_refl _) _)
  have o1 := heap_last w (.cells #[.int .i64 0, .int .i64 0] 23)
  have O1 := Lib.hid o1
  clear o1
  have hsz : (w.alloc (.cells #[.int .i64 0, .int .i64 0] 23)).heap.size = w.heap.size + 1 := by simp
  have HSZ := Lib.hid hsz
  clear hsz
  by_cases hk : okB l h = true
  · rw [if_pos hk]
    have hc : chkB l h = 0 := by rw [chkB, if_pos hk]
    obtain ⟨r, hr⟩ : ∃ r, fitB (min (max x l) h) (min (max y l) h) = r := ⟨_, rfl⟩
    rw [hr]
    have HR := Lib.hid hr
    clear hr
    go_enter Tryz.func71, Tryz.ntmps71
    go_wp2_with fail
    refine (bcheck_any _ _ _).mono ?_
    rintro e w1 ⟨rfl, hb1⟩
    rw [hc]
    have hW0 := chain hW hb1
    have c0 := cell_later (j := 0) hq.out hW0
    have c1 := cell_later (j := 1) hq.out hW0
    have c2 := cell_later (j := 0) hpl.out hW0
    have c3 := cell_later (j := 0) hph.out hW0
    simp at c0 c1 c2 c3
    go_wp2_with fail
    refine (fits_any _ _ _).mono ?_
    rintro e w2 ⟨rfl, hb2⟩
    rw [HR.out]
    have hb12 := chain hb1 hb2
    have hW1 := chain hW hb12
    have hs := hW1.size
    have y3 := cell_later (j := 0) O1.out hb12
    have y4 := cell_later (j := 1) O1.out hb12
    have g1 := frozen_later O1.out hb12 0
    have g2 := frozen_later O1.out hb12 1
    simp at y3 y4
    go_wp2
    refine bodyPost_ret (v := .tuple #[bandV r.lo r.hi, .int .i64 r.e]) (by simp [results, Tryz.results71, go_sem, y3, y4]) rfl ⟨rfl, (hW1.setCell (by simp <;> omega) _).setCell (by simp <;> omega) _⟩
  · rw [if_neg hk]
    have hc : chkB l h = 30 := by rw [chkB, if_neg hk]
    go_enter Tryz.func71, Tryz.ntmps71
    go_wp2_with fail
    refine (bcheck_any _ _ _).mono ?_
    rintro e w1 ⟨rfl, hb1⟩
    rw [hc]
    have hW1 := chain hW hb1
    have hs := hW1.size
    have y3 := cell_later (j := 0) O1.out hb1
    have y4 := cell_later (j := 1) O1.out hb1
    have g1 := frozen_later O1.out hb1 0
    have g2 := frozen_later O1.out hb1 1
    simp at y3 y4
    go_wp2
    refine bodyPost_ret (v := .tuple #[bandV 0 0, .int .i64 2]) (by simp [results, Tryz.results71, go_sem, y3, y4]) rfl ⟨rfl, (hW1.setCell (by simp <;> omega) _).setCell (by simp <;> omega) _⟩

theorem clamp_b (w : World) (x y : Int) (l h : Int) :
    Calls Tryz.prog 21 #[bandV x y, .int .i64 l, .int .i64 h] w (RetB w (oneB x y (if okB l h then fitB (min (max x l) h) (min (max y l) h) else .bad 2))) := by
  have hmf : ∀ (fn : Fn) (first cap : Array Value) (w : World), (Instr.makeFunc fn first cap).run Tryz.prog w = .ok (.func fn first cap) w := fun _ _ _ _ => rfl
  obtain ⟨r, hr⟩ : ∃ r, oneB x y (if okB l h then fitB (min (max x l) h) (min (max y l) h) else .bad 2) = r := ⟨_, rfl⟩
  rw [hr]
  have HR := Lib.hid hr
  clear hr
  have hW : Below w.heap.size w ((((((w.alloc (.cells #[.int .i64 x, .int .i64 y] 23)).alloc (.cells #[.int .i64 l] 3)).alloc (.cells #[.int .i64 h] 3)).alloc (.cells #[.int .i64 0, .int .i64 0] 23)).alloc (.cells #[.int .i64 l, .int .i64 h] 23)).alloc (.cells #[.int .i64 x, .int .i64 y] 23)) := (((((((Below.refl w.heap.size w).alloc (Nat.le_refl _) _).alloc (by simp <;> omega) _).alloc (by simp <;> omega) _).alloc (by simp <;> omega) _).alloc (by simp <;> omega) _).alloc (by simp <;> omega) _)
  have o1 := heap_more (heap_more (heap_more (heap_more (heap_more (heap_last w (.cells #[.int .i64 x, .int .i64 y] 23)) (.cells #[.int .i64 l] 3)) (.cells #[.int .i64 h] 3)) (.cells #[.int .i64 0, .int .i64 0] 23)) (.cells #[.int .i64 l, .int .i64 h] 23)) (.cells #[.int .i64 x, .int .i64 y] 23)
  have O1 := Lib.hid o1
  clear o1
  have o2 := heap_more (heap_more (heap_more (heap_more (heap_last (w.alloc (.cells #[.int .i64 x, .int .i64 y] 23)) (.cells #[.int .i64 l] 3)) (.cells #[.int .i64 h] 3)) (.cells #[.int .i64 0, .int .i64 0] 23)) (.cells #[.int .i64 l, .int .i64 h] 23)) (.cells #[.int .i64 x, .int .i64 y] 23)
  rw [show (w.alloc (.cells #[.int .i64 x, .int .i64 y] 23)).heap.size = w.heap.size + 1 by simp] at o2
  have O2 := Lib.hid o2
  clear o2
  have o3 := heap_more (heap_more (heap_more (heap_last ((w.alloc (.cells #[.int .i64 x, .int .i64 y] 23)).alloc (.cells #[.int .i64 l] 3)) (.cells #[.int .i64 h] 3)) (.cells #[.int .i64 0, .int .i64 0] 23)) (.cells #[.int .i64 l, .int .i64 h] 23)) (.cells #[.int .i64 x, .int .i64 y] 23)
  rw [show ((w.alloc (.cells #[.int .i64 x, .int .i64 y] 23)).alloc (.cells #[.int .i64 l] 3)).heap.size = w.heap.size + 1 + 1 by simp] at o3
  have O3 := Lib.hid o3
  clear o3
  have o4 := heap_more (heap_more (heap_last (((w.alloc (.cells #[.int .i64 x, .int .i64 y] 23)).alloc (.cells #[.int .i64 l] 3)).alloc (.cells #[.int .i64 h] 3)) (.cells #[.int .i64 0, .int .i64 0] 23)) (.cells #[.int .i64 l, .int .i64 h] 23)) (.cells #[.int .i64 x, .int .i64 y] 23)
  rw [show (((w.alloc (.cells #[.int .i64 x, .int .i64 y] 23)).alloc (.cells #[.int .i64 l] 3)).alloc (.cells #[.int .i64 h] 3)).heap.size = w.heap.size + 1 + 1 + 1 by simp] at o4
  have O4 := Lib.hid o4
  clear o4
  have o5 := heap_more (heap_last ((((w.alloc (.cells #[.int .i64 x, .int .i64 y] 23)).alloc (.cells #[.int .i64 l] 3)).alloc (.cells #[.int .i64 h] 3)).alloc (.cells #[.int .i64 0, .int .i64 0] 23)) (.cells #[.int .i64 l, .int .i64 h] 23)) (.cells #[.int .i64 x, .int .i64 y] 23)
  rw [show ((((w.alloc (.cells #[.int .i64 x, .int .i64 y] 23)).alloc (.cells #[.int .i64 l] 3)).alloc (.cells #[.int .i64 h] 3)).alloc (.cells #[.int .i64 0, .int .i64 0] 23)).heap.size = w.heap.size + 1 + 1 + 1 + 1 by simp] at o5
  have O5 := Lib.hid o5
  clear o5
  have o6 := heap_last (((((w.alloc (.cells #[.int .i64 x, .int .i64 y] 23)).alloc (.cells #[.int .i64 l] 3)).alloc (.cells #[.int .i64 h] 3)).alloc (.cells #[.int .i64 0, .int .i64 0] 23)).alloc (.cells #[.int .i64 l, .int .i64 h] 23)) (.cells #[.int .i64 x, .int .i64 y] 23)
  rw [show (((((w.alloc (.cells #[.int .i64 x, .int .i64 y] 23)).alloc (.cells #[.int .i64 l] 3)).alloc (.cells #[.int .i64 h] 3)).alloc (.cells #[.int .i64 0, .int .i64 0] 23)).alloc (.cells #[.int .i64 l, .int .i64 h] 23)).heap.size = w.heap.size + 1 + 1 + 1 + 1 + 1 by simp] at o6
  have O6 := Lib.hid o6
  clear o6
  have hsz : ((((((w.alloc (.cells #[.int .i64 x, .int .i64 y] 23)).alloc (.cells #[.int .i64 l] 3)).alloc (.cells #[.int .i64 h] 3)).alloc (.cells #[.int .i64 0, .int .i64 0] 23)).alloc (.cells #[.int .i64 l, .int .i64 h] 23)).alloc (.cells #[.int .i64 x, .int .i64 y] 23)).heap.size = w.heap.size + 1 + 1 + 1 + 1 + 1 + 1 := by simp
  have HSZ := Lib.hid hsz
  clear hsz
  go_enter Tryz.func21, Tryz.ntmps21
  go_wp2_with fail
  refine (checked1_any 71 (fun _ _ => by kernel_rfl) #[.pointer (some ⟨w.heap.size + 1 + 1 + 1 + 1, 0, none⟩), .pointer (some ⟨w.heap.size, 0, none⟩), .pointer (some ⟨w.heap.size + 1, 0, none⟩), .pointer (some ⟨w.heap.size + 1 + 1, 0, none⟩)] _ (w.heap.size + 1 + 1 + 1 + 1 + 1) x y 23 (Lib.hid O6.out) (if okB l h then fitB (min (max x l) h) (min (max y l) h) else .bad 2) (fun hok w' hb' => clampclo_any w' _ _ _ _ (Lib.hid (blk_later O5.out hb')) _ _ _ _ (Lib.hid (blk_later O1.out hb')) _ _ (Lib.hid (blk_later O2.out hb')) _ _ (Lib.hid (blk_later O3.out hb')))).mono ?_
  rintro e w1 ⟨rfl, hb1⟩
  rw [HR.out]
  have hW1 := chain hW hb1
  have hs := hW1.size
  have y3 := cell_later (j := 0) O4.out hb1
  have y4 := cell_later (j := 1) O4.out hb1
  have g1 := frozen_later O4.out hb1 0
  have g2 := frozen_later O4.out hb1 1
  simp at y3 y4
  go_wp2
  refine bodyPost_ret (v := .tuple #[bandV r.lo r.hi, .int .i64 r.e]) (by simp [results, Tryz.results21, go_sem, y3, y4]) rfl ⟨rfl, (hW1.setCell (by simp <;> omega) _).setCell (by simp <;> omega) _⟩

end Go.Proofs.YtkajibniibjblaaGreatDoor

namespace Go.Proofs.YtkajibniibjblaaGreatDoor
open Go.RowKit
set_option maxRecDepth 100000

/-- A call returned this integer and error number, and made at most new memory. -/
def RetI (w : World) (n e : Int) : Ending → World → Prop := fun x w' => x = .returned (.tuple #[.int .i64 n, .int .i64 e]) ∧ Below w.heap.size w w'
def oneN (x y n : Int) : Int := if okB x y then n else 0
def oneE (x y : Int) : Int := if okB x y then 0 else 30
def twoN (x y z t n : Int) : Int := if okB x y && okB z t then n else 0
def twoE (x y z t : Int) : Int := if okB x y && okB z t then 0 else 30

set_option maxHeartbeats 2000000 in
theorem checkedI1_any (k : Nat) (hk : Enters k) (cap : Array Value) (w : World) (b : Nat) (x y : Int) (T : TypeId) (hb : Hid (Blk w b #[.int .i64 x, .int .i64 y] T)) (n : Int)
    (hclo : okB x y = true → ∀ w', Below w.heap.size w w' → Calls Tryz.prog k cap w' (RetI w' n 0)) :
    Calls Tryz.prog 69 #[.func (.func k) #[] cap, .slice (some ⟨b, 0, none⟩) 1 1] w (RetI w (oneN x y n) (oneE x y)) := by
  have hlt : b < w.heap.size := (Array.getElem?_eq_some_iff.1 hb.out).1
  have hW : Below w.heap.size w (w.alloc (.cells #[.int .i64 x, .int .i64 y] 23)) := ((Below.refl w.heap.size w).alloc (Nat.le_refl _) _)
  have o1 := heap_last w (.cells #[.int .i64 x, .int .i64 y] 23)
  have O1 := Lib.hid o1
  clear o1
  have hsz : (w.alloc (.cells #[.int .i64 x, .int .i64 y] 23)).heap.size = w.heap.size + 1 := by simp
  have HSZ := Lib.hid hsz
  clear hsz
  have z0 : w.cell? ⟨b, 0, none⟩ = some (.int .i64 x) := cell_later (w1 := w) hb.out (Below.refl _ _)
  have z1 : w.cell? ⟨b, 1, none⟩ = some (.int .i64 y) := cell_later (w1 := w) hb.out (Below.refl _ _)
  by_cases h : okB x y = true
  · rw [show oneN x y n = n by rw [oneN, if_pos h], show oneE x y = 0 by rw [oneE, if_pos h]]
    have hc : chkB x y = 0 := by rw [chkB, if_pos h]
    have HC := Lib.hid (hclo h)
    clear hclo
    go_enter Tryz.func69, Tryz.ntmps69
    go_wp2
    refine wp_loop_rounds 2 ?_
    rw [rounds_succ]
    go_wp2_with fail
    refine (bcheck_any _ _ _).mono ?_
    rintro e w1 ⟨rfl, hb1⟩
    rw [hc]
    go_wp2
    rw [rounds_succ]
    go_wp2
    rw [hk]
    go_wp2_with fail
    have hW1 := chain hW hb1
    refine (HC.out _ hW1).mono ?_
    rintro e w2 ⟨rfl, hb2⟩
    have hW2 := chain hW1 hb2
    go_wp2
    go_ret2
    exact ⟨rfl, hW2⟩
  · rw [show oneN x y n = 0 by rw [oneN, if_neg h], show oneE x y = 30 by rw [oneE, if_neg h]]
    have hc : chkB x y = 30 := by rw [chkB, if_neg h]
    clear hclo
    go_enter Tryz.func69, Tryz.ntmps69
    go_wp2
    refine wp_loop_rounds 1 ?_
    rw [rounds_succ]
    go_wp2_with fail
    refine (bcheck_any _ _ _).mono ?_
    rintro e w1 ⟨rfl, hb1⟩
    rw [hc]
    have hW1 := chain hW hb1
    go_wp2
    go_ret2
    exact ⟨rfl, hW1⟩

set_option maxHeartbeats 2000000 in
theorem checkedI2_any (k : Nat) (hk : Enters k) (cap : Array Value) (w : World) (b : Nat) (x y z t : Int) (T : TypeId) (hb : Hid (Blk w b #[.int .i64 x, .int .i64 y, .int .i64 z, .int .i64 t] T)) (n : Int)
    (hclo : okB x y = true → okB z t = true → ∀ w', Below w.heap.size w w' → Calls Tryz.prog k cap w' (RetI w' n 0)) :
    Calls Tryz.prog 69 #[.func (.func k) #[] cap, .slice (some ⟨b, 0, none⟩) 2 2] w (RetI w (twoN x y z t n) (twoE x y z t)) := by
  have hlt : b < w.heap.size := (Array.getElem?_eq_some_iff.1 hb.out).1
  have hW : Below w.heap.size w (w.alloc (.cells #[.int .i64 x, .int .i64 y] 23)) := ((Below.refl w.heap.size w).alloc (Nat.le_refl _) _)
  have o1 := heap_last w (.cells #[.int .i64 x, .int .i64 y] 23)
  have O1 := Lib.hid o1
  clear o1
  have hsz : (w.alloc (.cells #[.int .i64 x, .int .i64 y] 23)).heap.size = w.heap.size + 1 := by simp
  have HSZ := Lib.hid hsz
  clear hsz
  have z0 : w.cell? ⟨b, 0, none⟩ = some (.int .i64 x) := cell_later (w1 := w) hb.out (Below.refl _ _)
  have z1 : w.cell? ⟨b, 1, none⟩ = some (.int .i64 y) := cell_later (w1 := w) hb.out (Below.refl _ _)
  by_cases h : okB x y = true
  · have hc : chkB x y = 0 := by rw [chkB, if_pos h]
    by_cases h' : okB z t = true
    · have hc' : chkB z t = 0 := by rw [chkB, if_pos h']
      rw [show twoN x y z t n = n by rw [twoN, h, h']; rfl, show twoE x y z t = 0 by rw [twoE, h, h']; rfl]
      have HC := Lib.hid (hclo h h')
      clear hclo
      go_enter Tryz.func69, Tryz.ntmps69
      go_wp2
      refine wp_loop_rounds 3 ?_
      rw [rounds_succ]
      go_wp2_with fail
      refine (bcheck_any _ _ _).mono ?_
      rintro e w1 ⟨rfl, hb1⟩
      rw [hc]
      have hW1 := chain hW hb1
      have u2 := cell_later (j := 2) hb.out hW1
      have u3 := cell_later (j := 3) hb.out hW1
      simp at u2 u3
      go_wp2
      rw [rounds_succ]
      have hWa : Below w1.heap.size w1 (w1.alloc (.cells #[.int .i64 z, .int .i64 t] 23)) := (Below.refl _ _).alloc (Nat.le_refl _) _
      go_wp2_with fail
      refine (bcheck_any _ _ _).mono ?_
      rintro e w2 ⟨rfl, hb2⟩
      rw [hc']
      go_wp2
      rw [rounds_succ]
      go_wp2
      rw [hk]
      go_wp2_with fail
      have hW2 := chain hW (chain (chain hb1 hWa) hb2)
      refine (HC.out _ hW2).mono ?_
      rintro e w3 ⟨rfl, hb3⟩
      have hW3 := chain hW2 hb3
      go_wp2
      go_ret2
      exact ⟨rfl, hW3⟩
    · have hc' : chkB z t = 30 := by rw [chkB, if_neg h']
      rw [show twoN x y z t n = 0 by rw [twoN, if_neg (by simp [h'])], show twoE x y z t = 30 by rw [twoE, if_neg (by simp [h'])]]
      clear hclo
      go_enter Tryz.func69, Tryz.ntmps69
      go_wp2
      refine wp_loop_rounds 2 ?_
      rw [rounds_succ]
      go_wp2_with fail
      refine (bcheck_any _ _ _).mono ?_
      rintro e w1 ⟨rfl, hb1⟩
      rw [hc]
      have hW1 := chain hW hb1
      have u2 := cell_later (j := 2) hb.out hW1
      have u3 := cell_later (j := 3) hb.out hW1
      simp at u2 u3
      go_wp2
      rw [rounds_succ]
      have hWa : Below w1.heap.size w1 (w1.alloc (.cells #[.int .i64 z, .int .i64 t] 23)) := (Below.refl _ _).alloc (Nat.le_refl _) _
      go_wp2_with fail
      refine (bcheck_any _ _ _).mono ?_
      rintro e w2 ⟨rfl, hb2⟩
      rw [hc']
      have hW2 := chain hW (chain (chain hb1 hWa) hb2)
      go_wp2
      go_ret2
      exact ⟨rfl, hW2⟩
  · rw [show twoN x y z t n = 0 by rw [twoN, if_neg (by simp [h])], show twoE x y z t = 30 by rw [twoE, if_neg (by simp [h])]]
    have hc : chkB x y = 30 := by rw [chkB, if_neg h]
    clear hclo
    go_enter Tryz.func69, Tryz.ntmps69
    go_wp2
    refine wp_loop_rounds 1 ?_
    rw [rounds_succ]
    go_wp2_with fail
    refine (bcheck_any _ _ _).mono ?_
    rintro e w1 ⟨rfl, hb1⟩
    rw [hc]
    have hW1 := chain hW hb1
    go_wp2
    go_ret2
    exact ⟨rfl, hW1⟩

theorem cmpclo_any (w : World) (p : Nat) (Tp : TypeId) (x y : Int) (hp : Hid (Blk w p #[.int .i64 x, .int .i64 y] Tp)) (q : Nat) (Tq : TypeId) (z t : Int) (hq : Hid (Blk w q #[.int .i64 z, .int .i64 t] Tq)) :
    Calls Tryz.prog 70 #[.pointer (some ⟨p, 0, none⟩), .pointer (some ⟨q, 0, none⟩)] w (RetI w (cmpV x y z t) 0) := by
  have c0 : w.cell? ⟨p, 0, none⟩ = some (.int .i64 x) := cell_later (w1 := w) hp.out (Below.refl _ _)
  have c1 : w.cell? ⟨p, 1, none⟩ = some (.int .i64 y) := cell_later (w1 := w) hp.out (Below.refl _ _)
  have c2 : w.cell? ⟨q, 0, none⟩ = some (.int .i64 z) := cell_later (w1 := w) hq.out (Below.refl _ _)
  have c3 : w.cell? ⟨q, 1, none⟩ = some (.int .i64 t) := cell_later (w1 := w) hq.out (Below.refl _ _)
  by_cases h1 : t < x
  · rw [show cmpV x y z t = 1 by rw [cmpV, if_pos h1]]
    go_enter Tryz.func70, Tryz.ntmps70
    go_wp2
    go_ret2
    exact ⟨rfl, Below.refl _ _⟩
  by_cases h2 : y < z
  · rw [show cmpV x y z t = -1 by rw [cmpV, if_neg h1, if_pos h2]]
    go_enter Tryz.func70, Tryz.ntmps70
    go_wp2
    go_ret2
    exact ⟨rfl, Below.refl _ _⟩
  by_cases h3 : x = z
  · by_cases h4 : y = t
    · by_cases h5 : x = y
      · rw [show cmpV x y z t = 0 by rw [cmpV, if_neg h1, if_neg h2, if_pos ⟨⟨h3, h4⟩, h5⟩]]
        subst h3 h4 h5
        go_enter Tryz.func70, Tryz.ntmps70
        go_wp2
        go_ret2
        exact ⟨rfl, Below.refl _ _⟩
      · rw [show cmpV x y z t = 2 by rw [cmpV, if_neg h1, if_neg h2, if_neg (fun h => h5 h.2)]]
        subst h3 h4
        go_enter Tryz.func70, Tryz.ntmps70
        go_wp2
        go_ret2
        exact ⟨rfl, Below.refl _ _⟩
    · rw [show cmpV x y z t = 2 by rw [cmpV, if_neg h1, if_neg h2, if_neg (fun h => h4 h.1.2)]]
      subst h3
      go_enter Tryz.func70, Tryz.ntmps70
      go_wp2
      go_ret2
      exact ⟨rfl, Below.refl _ _⟩
  · rw [show cmpV x y z t = 2 by rw [cmpV, if_neg h1, if_neg h2, if_neg (fun h => h3 h.1.1)]]
    go_enter Tryz.func70, Tryz.ntmps70
    go_wp2
    go_ret2
    exact ⟨rfl, Below.refl _ _⟩

theorem cmp_b (w : World) (x y z t : Int) : Calls Tryz.prog 18 #[bandV x y, bandV z t] w (RetI w (cmpN x y z t) (cmpE x y z t)) := by
  have hmf : ∀ (fn : Fn) (first cap : Array Value) (w : World), (Instr.makeFunc fn first cap).run Tryz.prog w = .ok (.func fn first cap) w := fun _ _ _ _ => rfl
  show Calls Tryz.prog 18 #[bandV x y, bandV z t] w (RetI w (twoN x y z t (cmpV x y z t)) (twoE x y z t))
  obtain ⟨n, hn⟩ : ∃ n, twoN x y z t (cmpV x y z t) = n := ⟨_, rfl⟩
  obtain ⟨m, hm⟩ : ∃ m, twoE x y z t = m := ⟨_, rfl⟩
  rw [hn, hm]
  have HN := Lib.hid hn
  have HM := Lib.hid hm
  clear hn hm
  have hW : Below w.heap.size w (((w.alloc (.cells #[.int .i64 x, .int .i64 y] 23)).alloc (.cells #[.int .i64 z, .int .i64 t] 23)).alloc (.cells #[.int .i64 x, .int .i64 y, .int .i64 z, .int .i64 t] 23)) := ((((Below.refl w.heap.size w).alloc (Nat.le_refl _) _).alloc (by simp <;> omega) _).alloc (by simp <;> omega) _)
  have o1 := heap_more (heap_more (heap_last w (.cells #[.int .i64 x, .int .i64 y] 23)) (.cells #[.int .i64 z, .int .i64 t] 23)) (.cells #[.int .i64 x, .int .i64 y, .int .i64 z, .int .i64 t] 23)
  have O1 := Lib.hid o1
  clear o1
  have o2 := heap_more (heap_last (w.alloc (.cells #[.int .i64 x, .int .i64 y] 23)) (.cells #[.int .i64 z, .int .i64 t] 23)) (.cells #[.int .i64 x, .int .i64 y, .int .i64 z, .int .i64 t] 23)
  rw [show (w.alloc (.cells #[.int .i64 x, .int .i64 y] 23)).heap.size = w.heap.size + 1 by simp] at o2
  have O2 := Lib.hid o2
  clear o2
  have o3 := heap_last ((w.alloc (.cells #[.int .i64 x, .int .i64 y] 23)).alloc (.cells #[.int .i64 z, .int .i64 t] 23)) (.cells #[.int .i64 x, .int .i64 y, .int .i64 z, .int .i64 t] 23)
  rw [show ((w.alloc (.cells #[.int .i64 x, .int .i64 y] 23)).alloc (.cells #[.int .i64 z, .int .i64 t] 23)).heap.size = w.heap.size + 1 + 1 by simp] at o3
  have O3 := Lib.hid o3
  clear o3
  have hsz : (((w.alloc (.cells #[.int .i64 x, .int .i64 y] 23)).alloc (.cells #[.int .i64 z, .int .i64 t] 23)).alloc (.cells #[.int .i64 x, .int .i64 y, .int .i64 z, .int .i64 t] 23)).heap.size = w.heap.size + 1 + 1 + 1 := by simp
  have HSZ := Lib.hid hsz
  clear hsz
  go_enter Tryz.func18, Tryz.ntmps18
  go_wp2_with fail
  refine (checkedI2_any 70 (fun _ _ => by kernel_rfl) #[.pointer (some ⟨w.heap.size, 0, none⟩), .pointer (some ⟨w.heap.size + 1, 0, none⟩)] _ (w.heap.size + 1 + 1) x y z t 23 (Lib.hid O3.out) (cmpV x y z t) (fun _ _ w' hb' => cmpclo_any w' _ _ _ _ (Lib.hid (blk_later O1.out hb')) _ _ _ _ (Lib.hid (blk_later O2.out hb')))).mono ?_
  rintro e w1 ⟨rfl, hb1⟩
  rw [HN.out, HM.out]
  have hW1 := chain hW hb1
  go_wp2
  go_ret2
  exact ⟨rfl, hW1⟩

theorem sign_b (w : World) (x y : Int) : Calls Tryz.prog 19 #[bandV x y] w (RetI w (cmpN x y 0 0) (cmpE x y 0 0)) := by
  obtain ⟨n, hn⟩ : ∃ n, cmpN x y 0 0 = n := ⟨_, rfl⟩
  obtain ⟨m, hm⟩ : ∃ m, cmpE x y 0 0 = m := ⟨_, rfl⟩
  rw [hn, hm]
  have HN := Lib.hid hn
  have HM := Lib.hid hm
  clear hn hm
  have hW : Below w.heap.size w (w.alloc (.cells #[.int .i64 x, .int .i64 y] 23)) := ((Below.refl w.heap.size w).alloc (Nat.le_refl _) _)
  have o1 := heap_last w (.cells #[.int .i64 x, .int .i64 y] 23)
  have O1 := Lib.hid o1
  clear o1
  have hsz : (w.alloc (.cells #[.int .i64 x, .int .i64 y] 23)).heap.size = w.heap.size + 1 := by simp
  have HSZ := Lib.hid hsz
  clear hsz
  go_enter Tryz.func19, Tryz.ntmps19
  go_wp2_with fail
  refine (cmp_b _ x y 0 0).mono ?_
  rintro e w1 ⟨rfl, hb1⟩
  rw [HN.out, HM.out]
  have hW1 := chain hW hb1
  go_wp2
  go_ret2
  exact ⟨rfl, hW1⟩

theorem midclo_any (w : World) (p : Nat) (Tp : TypeId) (x y : Int) (hp : Hid (Blk w p #[.int .i64 x, .int .i64 y] Tp)) (hx : -1000000000000000000 ≤ x) (hxy : x ≤ y) (hy : y ≤ 1000000000000000000) :
    Calls Tryz.prog 114 #[.pointer (some ⟨p, 0, none⟩)] w (RetI w ((x + y) / 2) 0) := by
  have c0 : w.cell? ⟨p, 0, none⟩ = some (.int .i64 x) := cell_later (w1 := w) hp.out (Below.refl _ _)
  have c1 : w.cell? ⟨p, 1, none⟩ = some (.int .i64 y) := cell_later (w1 := w) hp.out (Below.refl _ _)
  go_enter Tryz.func114, Tryz.ntmps114
  go_wp2
  go_ret2
  exact ⟨rfl, Below.refl _ _⟩

theorem mid_b (w : World) (x y : Int) : Calls Tryz.prog 54 #[bandV x y] w (RetI w (oneN x y ((x + y) / 2)) (oneE x y)) := by
  have hmf : ∀ (fn : Fn) (first cap : Array Value) (w : World), (Instr.makeFunc fn first cap).run Tryz.prog w = .ok (.func fn first cap) w := fun _ _ _ _ => rfl
  obtain ⟨n, hn⟩ : ∃ n, oneN x y ((x + y) / 2) = n := ⟨_, rfl⟩
  obtain ⟨m, hm⟩ : ∃ m, oneE x y = m := ⟨_, rfl⟩
  rw [hn, hm]
  have HN := Lib.hid hn
  have HM := Lib.hid hm
  clear hn hm
  have hW : Below w.heap.size w ((w.alloc (.cells #[.int .i64 x, .int .i64 y] 23)).alloc (.cells #[.int .i64 x, .int .i64 y] 23)) := (((Below.refl w.heap.size w).alloc (Nat.le_refl _) _).alloc (by simp <;> omega) _)
  have o1 := heap_more (heap_last w (.cells #[.int .i64 x, .int .i64 y] 23)) (.cells #[.int .i64 x, .int .i64 y] 23)
  have O1 := Lib.hid o1
  clear o1
  have o2 := heap_last (w.alloc (.cells #[.int .i64 x, .int .i64 y] 23)) (.cells #[.int .i64 x, .int .i64 y] 23)
  rw [show (w.alloc (.cells #[.int .i64 x, .int .i64 y] 23)).heap.size = w.heap.size + 1 by simp] at o2
  have O2 := Lib.hid o2
  clear o2
  have hsz : ((w.alloc (.cells #[.int .i64 x, .int .i64 y] 23)).alloc (.cells #[.int .i64 x, .int .i64 y] 23)).heap.size = w.heap.size + 1 + 1 := by simp
  have HSZ := Lib.hid hsz
  clear hsz
  go_enter Tryz.func54, Tryz.ntmps54
  go_wp2_with fail
  refine (checkedI1_any 114 (fun _ _ => by kernel_rfl) #[.pointer (some ⟨w.heap.size, 0, none⟩)] _ (w.heap.size + 1) x y 23 (Lib.hid O2.out) ((x + y) / 2) (fun hok w' hb' => midclo_any w' _ _ _ _ (Lib.hid (blk_later O1.out hb')) ((ok_iff x y).1 hok).1 ((ok_iff x y).1 hok).2.1 ((ok_iff x y).1 hok).2.2)).mono ?_
  rintro e w1 ⟨rfl, hb1⟩
  rw [HN.out, HM.out]
  have hW1 := chain hW hb1
  go_wp2
  go_ret2
  exact ⟨rfl, hW1⟩

end Go.Proofs.YtkajibniibjblaaGreatDoor
