/-
  the law's own small functions: b, is, fails, says.
-/
import Derived.Test.YtkajibniibjblaaGreatDoorBand14
import Derived.Deep.RegionHeld3
namespace Go.Proofs.YtkajibniibjblaaGreatDoor
open Go.RowKit
set_option maxRecDepth 100000

theorem b_any (w : World) (lo hi : Int) : Calls Tryz.prog 43 #[.int .i64 lo, .int .i64 hi] w fun e w' => e = .returned (bandV lo hi) ∧ Below w.heap.size w w' := by
  go_enter Tryz.func43, Tryz.ntmps43
  go_wp2
  refine bodyPost_ret (v := bandV lo hi) (by simp [results, Tryz.results43, go_sem]) rfl ⟨rfl, ?_⟩
  first
    | exact ((Below.refl _ _).alloc (Nat.le_refl _) _)
    | exact (((Below.refl _ _).alloc (Nat.le_refl _) _).setCell (by simp) _).setCell (by simp) _

theorem is_any (w : World) (lo hi : Int) : Calls Tryz.prog 50 #[.int .i64 lo, .int .i64 hi] w fun e w' => ∃ g h, e = .returned (.func (.func 110) #[] #[.pointer (some ⟨g, 0, none⟩), .pointer (some ⟨h, 0, none⟩)]) ∧ Hid (Blk w' g #[.int .i64 lo] 3) ∧ Hid (Blk w' h #[.int .i64 hi] 3) ∧ Below w.heap.size w w' := by
  have hmf : ∀ (fn : Fn) (first cap : Array Value) (w : World), (Instr.makeFunc fn first cap).run Tryz.prog w = .ok (.func fn first cap) w := fun _ _ _ _ => rfl
  have hW : Below w.heap.size w ((w.alloc (.cells #[.int .i64 lo] 3)).alloc (.cells #[.int .i64 hi] 3)) := (((Below.refl w.heap.size w).alloc (Nat.le_refl _) _).alloc (by simp <;> omega) _)
  have o1 := heap_more (heap_last w (.cells #[.int .i64 lo] 3)) (.cells #[.int .i64 hi] 3)
  have O1 := Lib.hid o1
  clear o1
  have o2 := heap_last (w.alloc (.cells #[.int .i64 lo] 3)) (.cells #[.int .i64 hi] 3)
  rw [show (w.alloc (.cells #[.int .i64 lo] 3)).heap.size = w.heap.size + 1 by simp] at o2
  have O2 := Lib.hid o2
  clear o2
  have hsz : ((w.alloc (.cells #[.int .i64 lo] 3)).alloc (.cells #[.int .i64 hi] 3)).heap.size = w.heap.size + 1 + 1 := by simp
  have HSZ := Lib.hid hsz
  clear hsz
  go_enter Tryz.func50, Tryz.ntmps50
  go_wp2
  go_ret
  exact ⟨_, _, rfl, O1, O2, hW⟩

theorem fails_any (w : World) (n : Int) : Calls Tryz.prog 51 #[.int .i64 n] w fun e w' => ∃ g, e = .returned (.func (.func 111) #[] #[.pointer (some ⟨g, 0, none⟩)]) ∧ Hid (Blk w' g #[.int .i64 n] 33) ∧ Below w.heap.size w w' := by
  have hmf : ∀ (fn : Fn) (first cap : Array Value) (w : World), (Instr.makeFunc fn first cap).run Tryz.prog w = .ok (.func fn first cap) w := fun _ _ _ _ => rfl
  have hW : Below w.heap.size w (w.alloc (.cells #[.int .i64 n] 33)) := ((Below.refl w.heap.size w).alloc (Nat.le_refl _) _)
  have o1 := heap_last w (.cells #[.int .i64 n] 33)
  have O1 := Lib.hid o1
  clear o1
  have hsz : (w.alloc (.cells #[.int .i64 n] 33)).heap.size = w.heap.size + 1 := by simp
  have HSZ := Lib.hid hsz
  clear hsz
  go_enter Tryz.func51, Tryz.ntmps51
  go_wp2
  go_ret
  exact ⟨_, rfl, O1, hW⟩

theorem says_any (w : World) (n : Int) : Calls Tryz.prog 53 #[.int .i64 n] w fun e w' => ∃ g, e = .returned (.func (.func 113) #[] #[.pointer (some ⟨g, 0, none⟩)]) ∧ Hid (Blk w' g #[.int .i64 n] 3) ∧ Below w.heap.size w w' := by
  have hmf : ∀ (fn : Fn) (first cap : Array Value) (w : World), (Instr.makeFunc fn first cap).run Tryz.prog w = .ok (.func fn first cap) w := fun _ _ _ _ => rfl
  have hW : Below w.heap.size w (w.alloc (.cells #[.int .i64 n] 3)) := ((Below.refl w.heap.size w).alloc (Nat.le_refl _) _)
  have o1 := heap_last w (.cells #[.int .i64 n] 3)
  have O1 := Lib.hid o1
  clear o1
  have hsz : (w.alloc (.cells #[.int .i64 n] 3)).heap.size = w.heap.size + 1 := by simp
  have HSZ := Lib.hid hsz
  clear hsz
  go_enter Tryz.func53, Tryz.ntmps53
  go_wp2
  go_ret
  exact ⟨_, rfl, O1, hW⟩

set_option maxHeartbeats 1000000 in
theorem isclo_ok (w : World) (g h : Nat) (Tg Th : TypeId) (lo hi : Int) (hg : Hid (Blk w g #[.int .i64 lo] Tg)) (hh : Hid (Blk w h #[.int .i64 hi] Th)) :
    Calls Tryz.prog 110 #[bandV lo hi, .int .i64 0, .pointer (some ⟨g, 0, none⟩), .pointer (some ⟨h, 0, none⟩)] w fun e w' => e = .returned (.bool true) ∧ Below w.heap.size w w' := by
  have hW : Below w.heap.size w (w.alloc (.cells #[.int .i64 lo, .int .i64 hi] 23)) := ((Below.refl w.heap.size w).alloc (Nat.le_refl _) _)
  have o1 := heap_last w (.cells #[.int .i64 lo, .int .i64 hi] 23)
  have O1 := Lib.hid o1
  clear o1
  have hsz : (w.alloc (.cells #[.int .i64 lo, .int .i64 hi] 23)).heap.size = w.heap.size + 1 := by simp
  have HSZ := Lib.hid hsz
  clear hsz
  have HS : Hid (∀ w', Below (w.alloc (.cells #[.int .i64 lo, .int .i64 hi] 23)).heap.size (w.alloc (.cells #[.int .i64 lo, .int .i64 hi] 23)) w' → w'.cell? ⟨w.heap.size, 0, none⟩ = some (.int .i64 lo) ∧ w'.cell? ⟨w.heap.size, 1, none⟩ = some (.int .i64 hi) ∧ w'.cell? ⟨g, 0, none⟩ = some (.int .i64 lo) ∧ w'.cell? ⟨h, 0, none⟩ = some (.int .i64 hi)) := fun w' hx => ⟨cell_later O1.out hx, cell_later O1.out hx, cell_later hg.out (chain hW hx), cell_later hh.out (chain hW hx)⟩
  have hm0 : Below (w.alloc (.cells #[.int .i64 lo, .int .i64 hi] 23)).heap.size (w.alloc (.cells #[.int .i64 lo, .int .i64 hi] 23)) (w.alloc (.cells #[.int .i64 lo, .int .i64 hi] 23)).drew := (Below.refl _ _).drew
  go_enter Tryz.func110, Tryz.ntmps110
  go_wp2_with fail
  go_region_held3 (fun w' => w'.cell? ⟨w.heap.size, 0, none⟩ = some (.int .i64 lo) ∧ w'.cell? ⟨w.heap.size, 1, none⟩ = some (.int .i64 hi) ∧ w'.cell? ⟨g, 0, none⟩ = some (.int .i64 lo) ∧ w'.cell? ⟨h, 0, none⟩ = some (.int .i64 hi))
    (first | with_reducible exact HS.out _ hm0 | with_reducible exact HS.out _ hm1)
    (first
      | (go_at_call 43; (refine (b_any _ _ _).mono ?_); rintro e w1 ⟨rfl, hb1⟩; have hm1 := undrewS hb1))
  go_wp2
  go_ret
  exact ⟨rfl, chain hW hm1⟩

theorem failsclo_ok (w : World) (g : Nat) (Tg : TypeId) (n : Int) (hg : Hid (Blk w g #[.int .i64 n] Tg)) :
    Calls Tryz.prog 111 #[bandV 0 0, .int .i64 n, .pointer (some ⟨g, 0, none⟩)] w fun e w' => e = .returned (.bool true) ∧ Below w.heap.size w w' := by
  have hW : Below w.heap.size w (w.alloc (.cells #[.int .i64 0, .int .i64 0] 23)) := ((Below.refl w.heap.size w).alloc (Nat.le_refl _) _)
  have o1 := heap_last w (.cells #[.int .i64 0, .int .i64 0] 23)
  have O1 := Lib.hid o1
  clear o1
  have hsz : (w.alloc (.cells #[.int .i64 0, .int .i64 0] 23)).heap.size = w.heap.size + 1 := by simp
  have HSZ := Lib.hid hsz
  clear hsz
  have c1 := cell_later (j := 0) hg.out hW
  simp at c1
  go_enter Tryz.func111, Tryz.ntmps111
  go_wp2
  go_ret
  exact ⟨rfl, hW⟩

theorem saysclo_ok (w : World) (g : Nat) (Tg : TypeId) (n : Int) (hg : Hid (Blk w g #[.int .i64 n] Tg)) :
    Calls Tryz.prog 113 #[.int .i64 n, .int .i64 0, .pointer (some ⟨g, 0, none⟩)] w fun e w' => e = .returned (.bool true) ∧ Below w.heap.size w w' := by
  have c1 : w.cell? ⟨g, 0, none⟩ = some (.int .i64 n) := cell_later (w1 := w) hg.out (Below.refl _ _)
  go_enter Tryz.func113, Tryz.ntmps113
  go_wp2
  go_ret
  exact ⟨rfl, Below.refl _ _⟩

end Go.Proofs.YtkajibniibjblaaGreatDoor
