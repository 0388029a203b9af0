/-
  band: round.
  band: corners, Mul, Div.
  band: Mul, Div.
  band: Sqr.
  band: Meet.
-/
import Derived.Test.YtkajibniibjblaaGreatDoorBand8
import Derived.Deep.QuietTactic
import Derived.BigQuiet
import Derived.Deep.DeepCutAuto
namespace Go.Proofs.YtkajibniibjblaaGreatDoor
open Go.RowKit
set_option maxRecDepth 100000

theorem rnd2_min (p q : Int × Int) : mnL [p, q] = (min p.1 q.1) ∧ mxL [p, q] = (max p.2 q.2) := by
  show (min p.1 q.1) = _ ∧ (max p.2 q.2) = _
  constructor <;> first | rfl | omega

set_option maxHeartbeats 4000000 in
theorem round2_any (w : World) (b : Nat) (T : TypeId) (p q : Int × Int) (hb : Hid (Blk w b #[.int .i64 p.1, .int .i64 p.2, .int .i64 q.1, .int .i64 q.2] T)) :
    Calls Tryz.prog 63 #[.slice (some ⟨b, 0, none⟩) 2 2] w (RetB w (rndB [p, q])) := by
  obtain ⟨r, hr⟩ : ∃ r, rndB [p, q] = r := ⟨_, rfl⟩
  rw [hr]
  have HR : Hid (fitB (min p.1 q.1) (max p.2 q.2) = r) := by show _ = _; rw [← hr, rndB, (rnd2_min p q).1, (rnd2_min p q).2]
  clear hr
  have hm2 := fun w ts t x y => run_max2 w ts t x y
  have hn2 := fun w ts t x y => run_min2 w ts t x y
  have hlt : b < w.heap.size := (Array.getElem?_eq_some_iff.1 hb.out).1
  have hW : Below w.heap.size w (w.alloc (.cells #[.int .i64 0, .int .i64 0] 23)) := ((Below.refl w.heap.size w).alloc (Nat.le_refl _) _)
  have o1 := heap_last w (.cells #[.int .i64 0, .int .i64 0] 23)
  have O1 := Lib.hid o1
  clear o1
  have hsz : (w.alloc (.cells #[.int .i64 0, .int .i64 0] 23)).heap.size = w.heap.size + 1 := by simp
  have HSZ := Lib.hid hsz
  clear hsz
  have c0 := cell_later (j := 0) hb.out hW
  have c1 := cell_later (j := 1) hb.out hW
  have c2 := cell_later (j := 2) hb.out hW
  have c3 := cell_later (j := 3) hb.out hW
  simp at c0 c1 c2 c3
  have k2 : ∀ (n0 : Nat) (o1 : Obj) (n1 : Nat), ((((w.alloc (.cells #[.int .i64 0, .int .i64 0] 23)).drewN n0).alloc o1).drewN n1).cell? ⟨b, 2, none⟩ = some (.int .i64 q.1) := fun n0 o1 n1 => (((below_drewN ((below_drewN (Below.refl _ _) _).alloc (by simp <;> omega) _) _) : Below (w.alloc (.cells #[.int .i64 0, .int .i64 0] 23)).heap.size (w.alloc (.cells #[.int .i64 0, .int .i64 0] 23)) ((((w.alloc (.cells #[.int .i64 0, .int .i64 0] 23)).drewN n0).alloc o1).drewN n1)).cell (p := ⟨b, 2, none⟩) (by simp <;> omega)).trans c2
  have k3 : ∀ (n0 : Nat) (o1 : Obj) (n1 : Nat), ((((w.alloc (.cells #[.int .i64 0, .int .i64 0] 23)).drewN n0).alloc o1).drewN n1).cell? ⟨b, 3, none⟩ = some (.int .i64 q.2) := fun n0 o1 n1 => (((below_drewN ((below_drewN (Below.refl _ _) _).alloc (by simp <;> omega) _) _) : Below (w.alloc (.cells #[.int .i64 0, .int .i64 0] 23)).heap.size (w.alloc (.cells #[.int .i64 0, .int .i64 0] 23)) ((((w.alloc (.cells #[.int .i64 0, .int .i64 0] 23)).drewN n0).alloc o1).drewN n1)).cell (p := ⟨b, 3, none⟩) (by simp <;> omega)).trans c3
  have hbig : Hid (∀ (n0 : Nat) (o1 : Obj) (n1 : Nat) (o2 : Obj) (n2 : Nat), Below (w.alloc (.cells #[.int .i64 0, .int .i64 0] 23)).heap.size (w.alloc (.cells #[.int .i64 0, .int .i64 0] 23)) ((((((w.alloc (.cells #[.int .i64 0, .int .i64 0] 23)).drewN n0).alloc o1).drewN n1).alloc o2).drewN n2)) := fun n0 o1 n1 o2 n2 => (below_drewN ((below_drewN ((below_drewN (Below.refl _ _) _).alloc (by simp <;> omega) _) _).alloc (by simp <;> omega) _) _)
  go_enter Tryz.func63, Tryz.ntmps63
  go_wp2_with fail
  go_quiet (fail)
  go_wp2_with fail
  refine wp_loop_rounds 3 ?_
  rw [rounds_succ]
  go_wp2_with fail
  go_quiet (fail)
  go_wp2_with fail
  rw [rounds_succ]
  go_wp2_with fail
  go_quiet (fail)
  go_wp2_with fail
  rw [rounds_succ]
  go_wp2_with fail
  refine (fits_any _ (min p.1 q.1) (max p.2 q.2)).mono ?_
  rintro e w1 ⟨rfl, hb1⟩
  rw [HR.out]
  have hb2 := chain (hbig.out _ _ _ _ _ ) hb1
  have hW1 := chain hW hb2
  have hs := hW1.size
  clear k2 k3
  have y3 := cell_later (j := 0) O1.out hb2
  have y4 := cell_later (j := 1) O1.out hb2
  have g1 := frozen_later O1.out hb2 0
  have g2 := frozen_later O1.out hb2 1
  simp at y3 y4
  go_wp2
  refine bodyPost_ret (v := .tuple #[bandV r.lo r.hi, .int .i64 r.e]) (by simp [results, Tryz.results63, go_sem, y3, y4]) rfl ⟨rfl, (hW1.setCell (by simp <;> omega) _).setCell (by simp <;> omega) _⟩

theorem rnd4_min (p q s t : Int × Int) : mnL [p, q, s, t] = (min p.1 (min q.1 (min s.1 t.1))) ∧ mxL [p, q, s, t] = (max p.2 (max q.2 (max s.2 t.2))) := by
  show (min (min (min p.1 q.1) s.1) t.1) = _ ∧ (max (max (max p.2 q.2) s.2) t.2) = _
  constructor <;> first | rfl | omega

set_option maxHeartbeats 4000000 in
theorem round4_any (w : World) (b : Nat) (T : TypeId) (p q s t : Int × Int) (hb : Hid (Blk w b #[.int .i64 p.1, .int .i64 p.2, .int .i64 q.1, .int .i64 q.2, .int .i64 s.1, .int .i64 s.2, .int .i64 t.1, .int .i64 t.2] T)) :
    Calls Tryz.prog 63 #[.slice (some ⟨b, 0, none⟩) 4 4] w (RetB w (rndB [p, q, s, t])) := by
  obtain ⟨r, hr⟩ : ∃ r, rndB [p, q, s, t] = r := ⟨_, rfl⟩
  rw [hr]
  have HR : Hid (fitB (min p.1 (min q.1 (min s.1 t.1))) (max p.2 (max q.2 (max s.2 t.2))) = r) := by show _ = _; rw [← hr, rndB, (rnd4_min p q s t).1, (rnd4_min p q s t).2]
  clear hr
  have hm2 := fun w ts t x y => run_max2 w ts t x y
  have hn2 := fun w ts t x y => run_min2 w ts t x y
  have hlt : b < w.heap.size := (Array.getElem?_eq_some_iff.1 hb.out).1
  have hW : Below w.heap.size w (w.alloc (.cells #[.int .i64 0, .int .i64 0] 23)) := ((Below.refl w.heap.size w).alloc (Nat.le_refl _) _)
  have o1 := heap_last w (.cells #[.int .i64 0, .int .i64 0] 23)
  have O1 := Lib.hid o1
  clear o1
  have hsz : (w.alloc (.cells #[.int .i64 0, .int .i64 0] 23)).heap.size = w.heap.size + 1 := by simp
  have HSZ := Lib.hid hsz
  clear hsz
  have c0 := cell_later (j := 0) hb.out hW
  have c1 := cell_later (j := 1) hb.out hW
  have c2 := cell_later (j := 2) hb.out hW
  have c3 := cell_later (j := 3) hb.out hW
  have c4 := cell_later (j := 4) hb.out hW
  have c5 := cell_later (j := 5) hb.out hW
  have c6 := cell_later (j := 6) hb.out hW
  have c7 := cell_later (j := 7) hb.out hW
  simp at c0 c1 c2 c3 c4 c5 c6 c7
  have k2 : ∀ (n0 : Nat) (o1 : Obj) (n1 : Nat), ((((w.alloc (.cells #[.int .i64 0, .int .i64 0] 23)).drewN n0).alloc o1).drewN n1).cell? ⟨b, 2, none⟩ = some (.int .i64 q.1) := fun n0 o1 n1 => (((below_drewN ((below_drewN (Below.refl _ _) _).alloc (by simp <;> omega) _) _) : Below (w.alloc (.cells #[.int .i64 0, .int .i64 0] 23)).heap.size (w.alloc (.cells #[.int .i64 0, .int .i64 0] 23)) ((((w.alloc (.cells #[.int .i64 0, .int .i64 0] 23)).drewN n0).alloc o1).drewN n1)).cell (p := ⟨b, 2, none⟩) (by simp <;> omega)).trans c2
  have k3 : ∀ (n0 : Nat) (o1 : Obj) (n1 : Nat), ((((w.alloc (.cells #[.int .i64 0, .int .i64 0] 23)).drewN n0).alloc o1).drewN n1).cell? ⟨b, 3, none⟩ = some (.int .i64 q.2) := fun n0 o1 n1 => (((below_drewN ((below_drewN (Below.refl _ _) _).alloc (by simp <;> omega) _) _) : Below (w.alloc (.cells #[.int .i64 0, .int .i64 0] 23)).heap.size (w.alloc (.cells #[.int .i64 0, .int .i64 0] 23)) ((((w.alloc (.cells #[.int .i64 0, .int .i64 0] 23)).drewN n0).alloc o1).drewN n1)).cell (p := ⟨b, 3, none⟩) (by simp <;> omega)).trans c3
  have k4 : ∀ (n0 : Nat) (o1 : Obj) (n1 : Nat) (o2 : Obj) (n2 : Nat), ((((((w.alloc (.cells #[.int .i64 0, .int .i64 0] 23)).drewN n0).alloc o1).drewN n1).alloc o2).drewN n2).cell? ⟨b, 4, none⟩ = some (.int .i64 s.1) := fun n0 o1 n1 o2 n2 => (((below_drewN ((below_drewN ((below_drewN (Below.refl _ _) _).alloc (by simp <;> omega) _) _).alloc (by simp <;> omega) _) _) : Below (w.alloc (.cells #[.int .i64 0, .int .i64 0] 23)).heap.size (w.alloc (.cells #[.int .i64 0, .int .i64 0] 23)) ((((((w.alloc (.cells #[.int .i64 0, .int .i64 0] 23)).drewN n0).alloc o1).drewN n1).alloc o2).drewN n2)).cell (p := ⟨b, 4, none⟩) (by simp <;> omega)).trans c4
  have k5 : ∀ (n0 : Nat) (o1 : Obj) (n1 : Nat) (o2 : Obj) (n2 : Nat), ((((((w.alloc (.cells #[.int .i64 0, .int .i64 0] 23)).drewN n0).alloc o1).drewN n1).alloc o2).drewN n2).cell? ⟨b, 5, none⟩ = some (.int .i64 s.2) := fun n0 o1 n1 o2 n2 => (((below_drewN ((below_drewN ((below_drewN (Below.refl _ _) _).alloc (by simp <;> omega) _) _).alloc (by simp <;> omega) _) _) : Below (w.alloc (.cells #[.int .i64 0, .int .i64 0] 23)).heap.size (w.alloc (.cells #[.int .i64 0, .int .i64 0] 23)) ((((((w.alloc (.cells #[.int .i64 0, .int .i64 0] 23)).drewN n0).alloc o1).drewN n1).alloc o2).drewN n2)).cell (p := ⟨b, 5, none⟩) (by simp <;> omega)).trans c5
  have k6 : ∀ (n0 : Nat) (o1 : Obj) (n1 : Nat) (o2 : Obj) (n2 : Nat) (o3 : Obj) (n3 : Nat), ((((((((w.alloc (.cells #[.int .i64 0, .int .i64 0] 23)).drewN n0).alloc o1).drewN n1).alloc o2).drewN n2).alloc o3).drewN n3).cell? ⟨b, 6, none⟩ = some (.int .i64 t.1) := fun n0 o1 n1 o2 n2 o3 n3 => (((below_drewN ((below_drewN ((below_drewN ((below_drewN (Below.refl _ _) _).alloc (by simp <;> omega) _) _).alloc (by simp <;> omega) _) _).alloc (by simp <;> omega) _) _) : Below (w.alloc (.cells #[.int .i64 0, .int .i64 0] 23)).heap.size (w.alloc (.cells #[.int .i64 0, .int .i64 0] 23)) ((((((((w.alloc (.cells #[.int .i64 0, .int .i64 0] 23)).drewN n0).alloc o1).drewN n1).alloc o2).drewN n2).alloc o3).drewN n3)).cell (p := ⟨b, 6, none⟩) (by simp <;> omega)).trans c6
  have k7 : ∀ (n0 : Nat) (o1 : Obj) (n1 : Nat) (o2 : Obj) (n2 : Nat) (o3 : Obj) (n3 : Nat), ((((((((w.alloc (.cells #[.int .i64 0, .int .i64 0] 23)).drewN n0).alloc o1).drewN n1).alloc o2).drewN n2).alloc o3).drewN n3).cell? ⟨b, 7, none⟩ = some (.int .i64 t.2) := fun n0 o1 n1 o2 n2 o3 n3 => (((below_drewN ((below_drewN ((below_drewN ((below_drewN (Below.refl _ _) _).alloc (by simp <;> omega) _) _).alloc (by simp <;> omega) _) _).alloc (by simp <;> omega) _) _) : Below (w.alloc (.cells #[.int .i64 0, .int .i64 0] 23)).heap.size (w.alloc (.cells #[.int .i64 0, .int .i64 0] 23)) ((((((((w.alloc (.cells #[.int .i64 0, .int .i64 0] 23)).drewN n0).alloc o1).drewN n1).alloc o2).drewN n2).alloc o3).drewN n3)).cell (p := ⟨b, 7, none⟩) (by simp <;> omega)).trans c7
  have hbig : Hid (∀ (n0 : Nat) (o1 : Obj) (n1 : Nat) (o2 : Obj) (n2 : Nat) (o3 : Obj) (n3 : Nat) (o4 : Obj) (n4 : Nat), Below (w.alloc (.cells #[.int .i64 0, .int .i64 0] 23)).heap.size (w.alloc (.cells #[.int .i64 0, .int .i64 0] 23)) ((((((((((w.alloc (.cells #[.int .i64 0, .int .i64 0] 23)).drewN n0).alloc o1).drewN n1).alloc o2).drewN n2).alloc o3).drewN n3).alloc o4).drewN n4)) := fun n0 o1 n1 o2 n2 o3 n3 o4 n4 => (below_drewN ((below_drewN ((below_drewN ((below_drewN ((below_drewN (Below.refl _ _) _).alloc (by simp <;> omega) _) _).alloc (by simp <;> omega) _) _).alloc (by simp <;> omega) _) _).alloc (by simp <;> omega) _) _)
  go_enter Tryz.func63, Tryz.ntmps63
  go_wp2_with fail
  go_quiet (fail)
  go_wp2_with fail
  refine wp_loop_rounds 5 ?_
  rw [rounds_succ]
  go_wp2_with fail
  go_quiet (fail)
  go_wp2_with fail
  rw [rounds_succ]
  go_wp2_with fail
  go_quiet (fail)
  go_wp2_with fail
  rw [rounds_succ]
  go_wp2_with fail
  go_quiet (fail)
  go_wp2_with fail
  rw [rounds_succ]
  go_wp2_with fail
  go_quiet (fail)
  go_wp2_with fail
  rw [rounds_succ]
  go_wp2_with fail
  refine (fits_any _ (min p.1 (min q.1 (min s.1 t.1))) (max p.2 (max q.2 (max s.2 t.2)))).mono ?_
  rintro e w1 ⟨rfl, hb1⟩
  rw [HR.out]
  have hb2 := chain (hbig.out _ _ _ _ _ _ _ _ _ ) hb1
  have hW1 := chain hW hb2
  have hs := hW1.size
  clear k2 k3 k4 k5 k6 k7
  have y3 := cell_later (j := 0) O1.out hb2
  have y4 := cell_later (j := 1) O1.out hb2
  have g1 := frozen_later O1.out hb2 0
  have g2 := frozen_later O1.out hb2 1
  simp at y3 y4
  go_wp2
  refine bodyPost_ret (v := .tuple #[bandV r.lo r.hi, .int .i64 r.e]) (by simp [results, Tryz.results63, go_sem, y3, y4]) rfl ⟨rfl, (hW1.setCell (by simp <;> omega) _).setCell (by simp <;> omega) _⟩

end Go.Proofs.YtkajibniibjblaaGreatDoor

namespace Go.Proofs.YtkajibniibjblaaGreatDoor
open Go.RowKit
set_option maxRecDepth 100000

/-- A function of two integers that returns the ends p at x, z. -/
abbrev GivesE (k : Nat) (x z : Int) (p : Int × Int) : Prop := ∀ w', Calls Tryz.prog k #[.int .i64 x, .int .i64 z] w' (RetE w' p)

set_option maxHeartbeats 4000000 in
theorem corners_any (w : World) (x y z t : Int) (k : Nat) (hk : Enters k) (p q r s : Int × Int)
    (h1 : Hid (GivesE k x z p)) (h2 : Hid (GivesE k x t q)) (h3 : Hid (GivesE k y z r)) (h4 : Hid (GivesE k y t s)) :
    Calls Tryz.prog 62 #[bandV x y, bandV z t, .func (.func k) #[] #[]] w fun e w' => e = .returned (.agg #[.int .i64 p.1, .int .i64 p.2, .int .i64 q.1, .int .i64 q.2, .int .i64 r.1, .int .i64 r.2, .int .i64 s.1, .int .i64 s.2]) ∧ Below w.heap.size w w' := by
  have hW : Below w.heap.size w (((w.alloc (.cells #[.int .i64 x, .int .i64 y] 23)).alloc (.cells #[.int .i64 z, .int .i64 t] 23)).alloc (.cells #[.int .i64 0, .int .i64 0, .int .i64 0, .int .i64 0, .int .i64 0, .int .i64 0, .int .i64 0, .int .i64 0] 91)) := ((((Below.refl w.heap.size w).alloc (Nat.le_refl _) _).alloc (by simp <;> omega) _).alloc (by simp <;> omega) _)
  have o1 := heap_more (heap_more (heap_last w (.cells #[.int .i64 x, .int .i64 y] 23)) (.cells #[.int .i64 z, .int .i64 t] 23)) (.cells #[.int .i64 0, .int .i64 0, .int .i64 0, .int .i64 0, .int .i64 0, .int .i64 0, .int .i64 0, .int .i64 0] 91)
  have O1 := Lib.hid o1
  clear o1
  have o2 := heap_more (heap_last (w.alloc (.cells #[.int .i64 x, .int .i64 y] 23)) (.cells #[.int .i64 z, .int .i64 t] 23)) (.cells #[.int .i64 0, .int .i64 0, .int .i64 0, .int .i64 0, .int .i64 0, .int .i64 0, .int .i64 0, .int .i64 0] 91)
  rw [show (w.alloc (.cells #[.int .i64 x, .int .i64 y] 23)).heap.size = w.heap.size + 1 by simp] at o2
  have O2 := Lib.hid o2
  clear o2
  have o3 := heap_last ((w.alloc (.cells #[.int .i64 x, .int .i64 y] 23)).alloc (.cells #[.int .i64 z, .int .i64 t] 23)) (.cells #[.int .i64 0, .int .i64 0, .int .i64 0, .int .i64 0, .int .i64 0, .int .i64 0, .int .i64 0, .int .i64 0] 91)
  rw [show ((w.alloc (.cells #[.int .i64 x, .int .i64 y] 23)).alloc (.cells #[.int .i64 z, .int .i64 t] 23)).heap.size = w.heap.size + 1 + 1 by simp] at o3
  have O3 := Lib.hid o3
  clear o3
  have hsz : (((w.alloc (.cells #[.int .i64 x, .int .i64 y] 23)).alloc (.cells #[.int .i64 z, .int .i64 t] 23)).alloc (.cells #[.int .i64 0, .int .i64 0, .int .i64 0, .int .i64 0, .int .i64 0, .int .i64 0, .int .i64 0, .int .i64 0] 91)).heap.size = w.heap.size + 1 + 1 + 1 := by simp
  have HSZ := Lib.hid hsz
  clear hsz
  have HS : Hid (∀ w', Below (w.heap.size + 1 + 1) (((w.alloc (.cells #[.int .i64 x, .int .i64 y] 23)).alloc (.cells #[.int .i64 z, .int .i64 t] 23)).alloc (.cells #[.int .i64 0, .int .i64 0, .int .i64 0, .int .i64 0, .int .i64 0, .int .i64 0, .int .i64 0, .int .i64 0] 91)) w' → w'.cell? ⟨w.heap.size, 0, none⟩ = some (.int .i64 x) ∧ w'.cell? ⟨w.heap.size, 1, none⟩ = some (.int .i64 y) ∧ w'.cell? ⟨w.heap.size + 1, 0, none⟩ = some (.int .i64 z) ∧ w'.cell? ⟨w.heap.size + 1, 1, none⟩ = some (.int .i64 t)) := fun w' h => ⟨cell_at O1.out (by omega) h, cell_at O1.out (by omega) h, cell_at O2.out (by omega) h, cell_at O2.out (by omega) h⟩
  have hU : Below (((w.alloc (.cells #[.int .i64 x, .int .i64 y] 23)).alloc (.cells #[.int .i64 z, .int .i64 t] 23)).alloc (.cells #[.int .i64 0, .int .i64 0, .int .i64 0, .int .i64 0, .int .i64 0, .int .i64 0, .int .i64 0, .int .i64 0] 91)).heap.size (((w.alloc (.cells #[.int .i64 x, .int .i64 y] 23)).alloc (.cells #[.int .i64 z, .int .i64 t] 23)).alloc (.cells #[.int .i64 0, .int .i64 0, .int .i64 0, .int .i64 0, .int .i64 0, .int .i64 0, .int .i64 0, .int .i64 0] 91)) (((w.alloc (.cells #[.int .i64 x, .int .i64 y] 23)).alloc (.cells #[.int .i64 z, .int .i64 t] 23)).alloc (.cells #[.int .i64 0, .int .i64 0, .int .i64 0, .int .i64 0, .int .i64 0, .int .i64 0, .int .i64 0, .int .i64 0] 91)).drew := (Below.refl _ _).drew
  have hle : w.heap.size + 1 + 1 ≤ (((w.alloc (.cells #[.int .i64 x, .int .i64 y] 23)).alloc (.cells #[.int .i64 z, .int .i64 t] 23)).alloc (.cells #[.int .i64 0, .int .i64 0, .int .i64 0, .int .i64 0, .int .i64 0, .int .i64 0, .int .i64 0, .int .i64 0] 91)).heap.size := by simp
  have hm0 := hU.mono hle
  have hble : w.heap.size + 1 + 1 ≤ w.heap.size + 1 + 1 := Nat.le_refl _
  have hk' : ∀ (a : Array Value) (w : World), Sem.run Tryz.prog (callFunc k a) w = .ok (.enter k a) w := hk
  go_enter Tryz.func62, Tryz.ntmps62
  go_wp2_with fail
  go_region_held3 (fun w' => w'.cell? ⟨w.heap.size, 0, none⟩ = some (.int .i64 x) ∧ w'.cell? ⟨w.heap.size, 1, none⟩ = some (.int .i64 y) ∧ w'.cell? ⟨w.heap.size + 1, 0, none⟩ = some (.int .i64 z) ∧ w'.cell? ⟨w.heap.size + 1, 1, none⟩ = some (.int .i64 t))
    (first | with_reducible exact HS.out _ hm0 | with_reducible exact HS.out _ hm1 | with_reducible exact HS.out _ hm2 | with_reducible exact HS.out _ hm3 | with_reducible exact HS.out _ hm4 | with_reducible exact HS.out _ ((((((((hm4.setCell hble _).setCell hble _).setCell hble _).setCell hble _).setCell hble _).setCell hble _).setCell hble _).setCell hble _))
    (first
      | ((with_reducible refine (h1.out (((w.alloc (.cells #[.int .i64 x, .int .i64 y] 23)).alloc (.cells #[.int .i64 z, .int .i64 t] 23)).alloc (.cells #[.int .i64 0, .int .i64 0, .int .i64 0, .int .i64 0, .int .i64 0, .int .i64 0, .int .i64 0, .int .i64 0] 91)).drew).mono ?_); rintro e w1 ⟨rfl, hb1⟩; have hc1 := undrewS hb1; have hm1 := hc1.mono hle)
      | ((with_reducible refine (h2.out w1).mono ?_); rintro e w2 ⟨rfl, hb2⟩; have hc2 := chain hc1 hb2; have hm2 := hc2.mono hle)
      | ((with_reducible refine (h3.out w2).mono ?_); rintro e w3 ⟨rfl, hb3⟩; have hc3 := chain hc2 hb3; have hm3 := hc3.mono hle)
      | ((with_reducible refine (h4.out w3).mono ?_); rintro e w4 ⟨rfl, hb4⟩; have hc4 := chain hc3 hb4; have hm4 := hc4.mono hle; have hW4 := chain hW hc4; have hs := hW4.size; have y0 := cell_later (j := 0) O3.out hc4; have y1 := cell_later (j := 1) O3.out hc4; have y2 := cell_later (j := 2) O3.out hc4; have y3 := cell_later (j := 3) O3.out hc4; have y4 := cell_later (j := 4) O3.out hc4; have y5 := cell_later (j := 5) O3.out hc4; have y6 := cell_later (j := 6) O3.out hc4; have y7 := cell_later (j := 7) O3.out hc4; have g0 := frozen_later O3.out hc4 0; have g1 := frozen_later O3.out hc4 1; have g2 := frozen_later O3.out hc4 2; have g3 := frozen_later O3.out hc4 3; have g4 := frozen_later O3.out hc4 4; have g5 := frozen_later O3.out hc4 5; have g6 := frozen_later O3.out hc4 6; have g7 := frozen_later O3.out hc4 7; simp at y0 y1 y2 y3 y4 y5 y6 y7))
  go_wp2
  refine bodyPost_ret (v := .agg #[.int .i64 p.1, .int .i64 p.2, .int .i64 q.1, .int .i64 q.2, .int .i64 r.1, .int .i64 r.2, .int .i64 s.1, .int .i64 s.2]) (by simp [results, Tryz.results62, go_sem, y0, y1, y2, y3, y4, y5, y6, y7]) rfl ⟨rfl, ((((((((hW4.setCell (by simp <;> omega) _).setCell (by simp <;> omega) _).setCell (by simp <;> omega) _).setCell (by simp <;> omega) _).setCell (by simp <;> omega) _).setCell (by simp <;> omega) _).setCell (by simp <;> omega) _).setCell (by simp <;> omega) _)⟩

end Go.Proofs.YtkajibniibjblaaGreatDoor

namespace Go.Proofs.YtkajibniibjblaaGreatDoor
open Go.RowKit
set_option maxRecDepth 100000

theorem mulend_any (w : World) (x z : Int) (hx0 : -1000000000000000000 ≤ x) (hx1 : x ≤ 1000000000000000000) (hz0 : -1000000000000000000 ≤ z) (hz1 : z ≤ 1000000000000000000) :
    Calls Tryz.prog 58 #[.int .i64 x, .int .i64 z] w (RetE w (overV x z 1000000000000)) := by
  obtain ⟨p, hp⟩ : ∃ p, overV x z 1000000000000 = p := ⟨_, rfl⟩
  rw [hp]
  have HP := Lib.hid hp
  clear hp
  have hW : Below w.heap.size w (w.alloc (.cells #[.int .i64 0, .int .i64 0] 87)) := ((Below.refl w.heap.size w).alloc (Nat.le_refl _) _)
  have o1 := heap_last w (.cells #[.int .i64 0, .int .i64 0] 87)
  have O1 := Lib.hid o1
  clear o1
  have hsz : (w.alloc (.cells #[.int .i64 0, .int .i64 0] 87)).heap.size = w.heap.size + 1 := by simp
  have HSZ := Lib.hid hsz
  clear hsz
  go_enter Tryz.func58, Tryz.ntmps58
  go_wp2_with fail
  refine (over_any_b _ x z 1000000000000 hx0 hx1 hz0 hz1 (by decide) (by decide) (by decide)).mono ?_
  rintro e w1 ⟨rfl, hb1⟩
  rw [HP.out]
  have hW1 := chain hW hb1
  have hs := hW1.size
  have y3 := cell_later (j := 0) O1.out hb1
  have y4 := cell_later (j := 1) O1.out hb1
  have g1 := frozen_later O1.out hb1 0
  have g2 := frozen_later O1.out hb1 1
  simp at y3 y4
  go_wp2
  refine bodyPost_ret (v := endV p) (by simp [results, Tryz.results58, go_sem, y3, y4]) rfl ⟨rfl, (hW1.setCell (by simp <;> omega) _).setCell (by simp <;> omega) _⟩

theorem divend_any (w : World) (x z : Int) (hx0 : -1000000000000000000 ≤ x) (hx1 : x ≤ 1000000000000000000) (hz0 : -1000000000000000000 ≤ z) (hz1 : z ≤ 1000000000000000000) (hz : z ≠ 0) :
    Calls Tryz.prog 74 #[.int .i64 x, .int .i64 z] w (RetE w (overV x 1000000000000 z)) := by
  obtain ⟨p, hp⟩ : ∃ p, overV x 1000000000000 z = p := ⟨_, rfl⟩
  rw [hp]
  have HP := Lib.hid hp
  clear hp
  have hW : Below w.heap.size w (w.alloc (.cells #[.int .i64 0, .int .i64 0] 87)) := ((Below.refl w.heap.size w).alloc (Nat.le_refl _) _)
  have o1 := heap_last w (.cells #[.int .i64 0, .int .i64 0] 87)
  have O1 := Lib.hid o1
  clear o1
  have hsz : (w.alloc (.cells #[.int .i64 0, .int .i64 0] 87)).heap.size = w.heap.size + 1 := by simp
  have HSZ := Lib.hid hsz
  clear hsz
  go_enter Tryz.func74, Tryz.ntmps74
  go_wp2_with fail
  refine (over_any_b _ x 1000000000000 z hx0 hx1 (by decide) (by decide) hz0 hz1 hz).mono ?_
  rintro e w1 ⟨rfl, hb1⟩
  rw [HP.out]
  have hW1 := chain hW hb1
  have hs := hW1.size
  have y3 := cell_later (j := 0) O1.out hb1
  have y4 := cell_later (j := 1) O1.out hb1
  have g1 := frozen_later O1.out hb1 0
  have g2 := frozen_later O1.out hb1 1
  simp at y3 y4
  go_wp2
  refine bodyPost_ret (v := endV p) (by simp [results, Tryz.results74, go_sem, y3, y4]) rfl ⟨rfl, (hW1.setCell (by simp <;> omega) _).setCell (by simp <;> omega) _⟩

set_option maxHeartbeats 2000000 in
theorem mulclo_any (w : World) (pa : Nat) (Ta : TypeId) (x y : Int) (hpa : Hid (Blk w pa #[.int .i64 x, .int .i64 y] Ta)) (pb : Nat) (Tb : TypeId) (z t : Int) (hpb : Hid (Blk w pb #[.int .i64 z, .int .i64 t] Tb)) (pf : Nat) (Tf : TypeId) (hpf : Hid (Blk w pf #[.func (.func 58) #[] #[]] Tf)) (hx : -1000000000000000000 ≤ x) (hxy : x ≤ y) (hy : y ≤ 1000000000000000000) (hz : -1000000000000000000 ≤ z) (hzt : z ≤ t) (ht : t ≤ 1000000000000000000) :
    Calls Tryz.prog 61 #[.pointer (some ⟨pa, 0, none⟩), .pointer (some ⟨pb, 0, none⟩), .pointer (some ⟨pf, 0, none⟩)] w (RetB w (rndB ((mulL x y z t).map ovV))) := by
  obtain ⟨rr, hr⟩ : ∃ rr, rndB ((mulL x y z t).map ovV) = rr := ⟨_, rfl⟩
  rw [hr]
  obtain ⟨p, ep⟩ : ∃ p, overV x z 1000000000000 = p := ⟨_, rfl⟩
  obtain ⟨q, eq⟩ : ∃ q, overV x t 1000000000000 = q := ⟨_, rfl⟩
  obtain ⟨r, er⟩ : ∃ r, overV y z 1000000000000 = r := ⟨_, rfl⟩
  obtain ⟨s, es⟩ : ∃ s, overV y t 1000000000000 = s := ⟨_, rfl⟩
  have HR : Hid (rndB [p, q, r, s] = rr) := by show _ = _; rw [← ep, ← eq, ← er, ← es, ← hr]; rfl
  have H1 : Hid (GivesE 58 x z p) := fun w' => by rw [← ep]; exact mulend_any w' x z (by omega) (by omega) (by omega) (by omega)
  have H2 : Hid (GivesE 58 x t q) := fun w' => by rw [← eq]; exact mulend_any w' x t (by omega) (by omega) (by omega) (by omega)
  have H3 : Hid (GivesE 58 y z r) := fun w' => by rw [← er]; exact mulend_any w' y z (by omega) (by omega) (by omega) (by omega)
  have H4 : Hid (GivesE 58 y t s) := fun w' => by rw [← es]; exact mulend_any w' y t (by omega) (by omega) (by omega) (by omega)
  clear ep eq er es hr hx hxy hy hz hzt ht
  have hW : Below w.heap.size w (w.alloc (.cells #[.int .i64 0, .int .i64 0] 23)) := ((Below.refl w.heap.size w).alloc (Nat.le_refl _) _)
  have o1 := heap_last w (.cells #[.int .i64 0, .int .i64 0] 23)
  have O1 := Lib.hid o1
  clear o1
  have hsz : (w.alloc (.cells #[.int .i64 0, .int .i64 0] 23)).heap.size = w.heap.size + 1 := by simp
  have HSZ := Lib.hid hsz
  clear hsz
  have lpa : pa < w.heap.size := (Array.getElem?_eq_some_iff.1 hpa.out).1
  have cpa0 : (w.alloc (.cells #[.int .i64 0, .int .i64 0] 23)).cell? ⟨pa, 0, none⟩ = some (.int .i64 x) := cell_later (w1 := w) hpa.out ((Below.refl _ _).alloc (Nat.le_refl _) _)
  have cpa1 : (w.alloc (.cells #[.int .i64 0, .int .i64 0] 23)).cell? ⟨pa, 1, none⟩ = some (.int .i64 y) := cell_later (w1 := w) hpa.out ((Below.refl _ _).alloc (Nat.le_refl _) _)
  have lpb : pb < w.heap.size := (Array.getElem?_eq_some_iff.1 hpb.out).1
  have cpb0 : (w.alloc (.cells #[.int .i64 0, .int .i64 0] 23)).cell? ⟨pb, 0, none⟩ = some (.int .i64 z) := cell_later (w1 := w) hpb.out ((Below.refl _ _).alloc (Nat.le_refl _) _)
  have cpb1 : (w.alloc (.cells #[.int .i64 0, .int .i64 0] 23)).cell? ⟨pb, 1, none⟩ = some (.int .i64 t) := cell_later (w1 := w) hpb.out ((Below.refl _ _).alloc (Nat.le_refl _) _)
  have lpf : pf < w.heap.size := (Array.getElem?_eq_some_iff.1 hpf.out).1
  have cpf0 : (w.alloc (.cells #[.int .i64 0, .int .i64 0] 23)).cell? ⟨pf, 0, none⟩ = some (.func (.func 58) #[] #[]) := cell_later (w1 := w) hpf.out ((Below.refl _ _).alloc (Nat.le_refl _) _)
  go_enter Tryz.func61, Tryz.ntmps61
  go_wp2_with fail
  refine (corners_any _ x y z t 58 (fun _ _ => by kernel_rfl) p q r s H1 H2 H3 H4).mono ?_
  rintro e w1 ⟨rfl, hb1⟩
  have hsz1 := hb1.size
  simp at hsz1
  go_wp2_with fail
  refine (round4_any _ w1.heap.size 91 p q r s (Lib.hid (heap_last _ _))).mono ?_
  rintro e w2 ⟨rfl, hb2⟩
  rw [HR.out]
  have hWa : Below w1.heap.size w1 (w1.alloc (.cells #[.int .i64 p.1, .int .i64 p.2, .int .i64 q.1, .int .i64 q.2, .int .i64 r.1, .int .i64 r.2, .int .i64 s.1, .int .i64 s.2] 91)) := (Below.refl _ _).alloc (Nat.le_refl _) _
  have hb12 := chain (chain hb1 hWa) hb2
  have hW1 := chain hW hb12
  have hs := hW1.size
  have y3 := cell_later (j := 0) O1.out hb12
  have y4 := cell_later (j := 1) O1.out hb12
  have g1 := frozen_later O1.out hb12 0
  have g2 := frozen_later O1.out hb12 1
  simp at y3 y4
  go_wp2
  refine bodyPost_ret (v := .tuple #[bandV rr.lo rr.hi, .int .i64 rr.e]) (by simp [results, Tryz.results61, go_sem, y3, y4]) rfl ⟨rfl, (hW1.setCell (by simp <;> omega) _).setCell (by simp <;> omega) _⟩

set_option maxHeartbeats 2000000 in
theorem mul_b (w : World) (x y z t : Int) : Calls Tryz.prog 12 #[bandV x y, bandV z t] w (RetB w (mulB x y z t)) := by
  have hmf : ∀ (fn : Fn) (first cap : Array Value) (w : World), (Instr.makeFunc fn first cap).run Tryz.prog w = .ok (.func fn first cap) w := fun _ _ _ _ => rfl
  obtain ⟨r, hr⟩ : ∃ r, mulB x y z t = r := ⟨_, rfl⟩
  rw [hr]
  have HR := Lib.hid hr
  clear hr
  have HR' : Hid (twoB x y z t (rndB ((mulL x y z t).map ovV)) = r) := HR
  have hW : Below w.heap.size w (((((w.alloc (.cells #[.int .i64 x, .int .i64 y] 23)).alloc (.cells #[.int .i64 z, .int .i64 t] 23)).alloc (.cells #[.int .i64 0, .int .i64 0] 23)).alloc (.cells #[.func (.func 58) #[] #[]] 89)).alloc (.cells #[.int .i64 x, .int .i64 y, .int .i64 z, .int .i64 t] 23)) := ((((((Below.refl w.heap.size w).alloc (Nat.le_refl _) _).alloc (by simp <;> omega) _).alloc (by simp <;> omega) _).alloc (by simp <;> omega) _).alloc (by simp <;> omega) _)
  have o1 := heap_more (heap_more (heap_more (heap_more (heap_last w (.cells #[.int .i64 x, .int .i64 y] 23)) (.cells #[.int .i64 z, .int .i64 t] 23)) (.cells #[.int .i64 0, .int .i64 0] 23)) (.cells #[.func (.func 58) #[] #[]] 89)) (.cells #[.int .i64 x, .int .i64 y, .int .i64 z, .int .i64 t] 23)
  have O1 := Lib.hid o1
  clear o1
  have o2 := heap_more (heap_more (heap_more (heap_last (w.alloc (.cells #[.int .i64 x, .int .i64 y] 23)) (.cells #[.int .i64 z, .int .i64 t] 23)) (.cells #[.int .i64 0, .int .i64 0] 23)) (.cells #[.func (.func 58) #[] #[]] 89)) (.cells #[.int .i64 x, .int .i64 y, .int .i64 z, .int .i64 t] 23)
  rw [show (w.alloc (.cells #[.int .i64 x, .int .i64 y] 23)).heap.size = w.heap.size + 1 by simp] at o2
  have O2 := Lib.hid o2
  clear o2
  have o3 := heap_more (heap_more (heap_last ((w.alloc (.cells #[.int .i64 x, .int .i64 y] 23)).alloc (.cells #[.int .i64 z, .int .i64 t] 23)) (.cells #[.int .i64 0, .int .i64 0] 23)) (.cells #[.func (.func 58) #[] #[]] 89)) (.cells #[.int .i64 x, .int .i64 y, .int .i64 z, .int .i64 t] 23)
  rw [show ((w.alloc (.cells #[.int .i64 x, .int .i64 y] 23)).alloc (.cells #[.int .i64 z, .int .i64 t] 23)).heap.size = w.heap.size + 1 + 1 by simp] at o3
  have O3 := Lib.hid o3
  clear o3
  have o4 := heap_more (heap_last (((w.alloc (.cells #[.int .i64 x, .int .i64 y] 23)).alloc (.cells #[.int .i64 z, .int .i64 t] 23)).alloc (.cells #[.int .i64 0, .int .i64 0] 23)) (.cells #[.func (.func 58) #[] #[]] 89)) (.cells #[.int .i64 x, .int .i64 y, .int .i64 z, .int .i64 t] 23)
  rw [show (((w.alloc (.cells #[.int .i64 x, .int .i64 y] 23)).alloc (.cells #[.int .i64 z, .int .i64 t] 23)).alloc (.cells #[.int .i64 0, .int .i64 0] 23)).heap.size = w.heap.size + 1 + 1 + 1 by simp] at o4
  have O4 := Lib.hid o4
  clear o4
  have o5 := heap_last ((((w.alloc (.cells #[.int .i64 x, .int .i64 y] 23)).alloc (.cells #[.int .i64 z, .int .i64 t] 23)).alloc (.cells #[.int .i64 0, .int .i64 0] 23)).alloc (.cells #[.func (.func 58) #[] #[]] 89)) (.cells #[.int .i64 x, .int .i64 y, .int .i64 z, .int .i64 t] 23)
  rw [show ((((w.alloc (.cells #[.int .i64 x, .int .i64 y] 23)).alloc (.cells #[.int .i64 z, .int .i64 t] 23)).alloc (.cells #[.int .i64 0, .int .i64 0] 23)).alloc (.cells #[.func (.func 58) #[] #[]] 89)).heap.size = w.heap.size + 1 + 1 + 1 + 1 by simp] at o5
  have O5 := Lib.hid o5
  clear o5
  have hsz : (((((w.alloc (.cells #[.int .i64 x, .int .i64 y] 23)).alloc (.cells #[.int .i64 z, .int .i64 t] 23)).alloc (.cells #[.int .i64 0, .int .i64 0] 23)).alloc (.cells #[.func (.func 58) #[] #[]] 89)).alloc (.cells #[.int .i64 x, .int .i64 y, .int .i64 z, .int .i64 t] 23)).heap.size = w.heap.size + 1 + 1 + 1 + 1 + 1 := by simp
  have HSZ := Lib.hid hsz
  clear hsz
  go_enter Tryz.func12, Tryz.ntmps12
  go_wp2_with fail
  refine (checked2_any 61 (fun _ _ => by kernel_rfl) #[.pointer (some ⟨w.heap.size, 0, none⟩), .pointer (some ⟨w.heap.size + 1, 0, none⟩), .pointer (some ⟨w.heap.size + 1 + 1 + 1, 0, none⟩)] _ (w.heap.size + 1 + 1 + 1 + 1) x y z t 23 (Lib.hid O5.out) (rndB ((mulL x y z t).map ovV)) (fun hok hok' w' hb' => mulclo_any w' _ _ _ _ (Lib.hid (blk_later O1.out hb')) _ _ _ _ (Lib.hid (blk_later O2.out hb')) _ _ (Lib.hid (blk_later O4.out hb')) ((ok_iff x y).1 hok).1 ((ok_iff x y).1 hok).2.1 ((ok_iff x y).1 hok).2.2 ((ok_iff z t).1 hok').1 ((ok_iff z t).1 hok').2.1 ((ok_iff z t).1 hok').2.2)).mono ?_
  rintro e w1 ⟨rfl, hb1⟩
  rw [HR'.out]
  have hW1 := chain hW hb1
  have hs := hW1.size
  have y3 := cell_later (j := 0) O3.out hb1
  have y4 := cell_later (j := 1) O3.out hb1
  have g1 := frozen_later O3.out hb1 0
  have g2 := frozen_later O3.out hb1 1
  simp at y3 y4
  go_wp2
  refine bodyPost_ret (v := .tuple #[bandV r.lo r.hi, .int .i64 r.e]) (by simp [results, Tryz.results12, go_sem, y3, y4]) rfl ⟨rfl, (hW1.setCell (by simp <;> omega) _).setCell (by simp <;> omega) _⟩

set_option maxHeartbeats 4000000 in
theorem divclo_any (w : World) (pb : Nat) (Tb : TypeId) (z t : Int) (hpb : Hid (Blk w pb #[.int .i64 z, .int .i64 t] Tb)) (pa : Nat) (Ta : TypeId) (x y : Int) (hpa : Hid (Blk w pa #[.int .i64 x, .int .i64 y] Ta)) (hx : -1000000000000000000 ≤ x) (hxy : x ≤ y) (hy : y ≤ 1000000000000000000) (hz : -1000000000000000000 ≤ z) (hzt : z ≤ t) (ht : t ≤ 1000000000000000000) :
    Calls Tryz.prog 73 #[.pointer (some ⟨pb, 0, none⟩), .pointer (some ⟨pa, 0, none⟩)] w (RetB w (if z ≤ 0 ∧ 0 ≤ t then .bad 7 else rndB ((divL x y z t).map ovV))) := by
  have hW : Below w.heap.size w (w.alloc (.cells #[.int .i64 0, .int .i64 0] 23)) := ((Below.refl w.heap.size w).alloc (Nat.le_refl _) _)
  have o1 := heap_last w (.cells #[.int .i64 0, .int .i64 0] 23)
  have O1 := Lib.hid o1
  clear o1
  have hsz : (w.alloc (.cells #[.int .i64 0, .int .i64 0] 23)).heap.size = w.heap.size + 1 := by simp
  have HSZ := Lib.hid hsz
  clear hsz
  have lpa : pa < w.heap.size := (Array.getElem?_eq_some_iff.1 hpa.out).1
  have cpa0 : (w.alloc (.cells #[.int .i64 0, .int .i64 0] 23)).cell? ⟨pa, 0, none⟩ = some (.int .i64 x) := cell_later (w1 := w) hpa.out ((Below.refl _ _).alloc (Nat.le_refl _) _)
  have cpa1 : (w.alloc (.cells #[.int .i64 0, .int .i64 0] 23)).cell? ⟨pa, 1, none⟩ = some (.int .i64 y) := cell_later (w1 := w) hpa.out ((Below.refl _ _).alloc (Nat.le_refl _) _)
  have lpb : pb < w.heap.size := (Array.getElem?_eq_some_iff.1 hpb.out).1
  have cpb0 : (w.alloc (.cells #[.int .i64 0, .int .i64 0] 23)).cell? ⟨pb, 0, none⟩ = some (.int .i64 z) := cell_later (w1 := w) hpb.out ((Below.refl _ _).alloc (Nat.le_refl _) _)
  have cpb1 : (w.alloc (.cells #[.int .i64 0, .int .i64 0] 23)).cell? ⟨pb, 1, none⟩ = some (.int .i64 t) := cell_later (w1 := w) hpb.out ((Below.refl _ _).alloc (Nat.le_refl _) _)
  by_cases h0 : z ≤ 0 ∧ 0 ≤ t
  · rw [if_pos h0]
    obtain ⟨h1, h2⟩ := h0
    go_enter Tryz.func73, Tryz.ntmps73
    go_wp2
    refine bodyPost_ret (v := .tuple #[bandV 0 0, .int .i64 7]) (by simp [results, Tryz.results73, go_sem]) rfl ⟨rfl, ?_⟩
    first
      | exact ((Below.refl _ _).alloc (Nat.le_refl _) _)
      | exact (((Below.refl _ _).alloc (Nat.le_refl _) _).setCell (by simp) _).setCell (by simp) _
  · rw [if_neg h0]
    obtain ⟨rr, hr⟩ : ∃ rr, rndB ((divL x y z t).map ovV) = rr := ⟨_, rfl⟩
    rw [hr]
    obtain ⟨p, ep⟩ : ∃ p, overV x 1000000000000 z = p := ⟨_, rfl⟩
    obtain ⟨q, eq⟩ : ∃ q, overV x 1000000000000 t = q := ⟨_, rfl⟩
    obtain ⟨r, er⟩ : ∃ r, overV y 1000000000000 z = r := ⟨_, rfl⟩
    obtain ⟨s, es⟩ : ∃ s, overV y 1000000000000 t = s := ⟨_, rfl⟩
    have HR : Hid (rndB [p, q, r, s] = rr) := by show _ = _; rw [← ep, ← eq, ← er, ← es, ← hr]; rfl
    have H1 : Hid (GivesE 74 x z p) := fun w' => by rw [← ep]; exact divend_any w' x z (by omega) (by omega) (by omega) (by omega) (by omega)
    have H2 : Hid (GivesE 74 x t q) := fun w' => by rw [← eq]; exact divend_any w' x t (by omega) (by omega) (by omega) (by omega) (by omega)
    have H3 : Hid (GivesE 74 y z r) := fun w' => by rw [← er]; exact divend_any w' y z (by omega) (by omega) (by omega) (by omega) (by omega)
    have H4 : Hid (GivesE 74 y t s) := fun w' => by rw [← es]; exact divend_any w' y t (by omega) (by omega) (by omega) (by omega) (by omega)
    clear ep eq er es hr
    by_cases h1 : z ≤ 0
    · have h2 : ¬ 0 ≤ t := fun h => h0 ⟨h1, h⟩
      clear h0 hx hxy hy hz hzt ht
      go_enter Tryz.func73, Tryz.ntmps73
      go_wp2_with fail
      refine (corners_any _ x y z t 74 (fun _ _ => by kernel_rfl) p q r s H1 H2 H3 H4).mono ?_
      rintro e w1 ⟨rfl, hb1⟩
      have hsz1 := hb1.size
      simp at hsz1
      go_wp2_with fail
      refine (round4_any _ w1.heap.size 91 p q r s (Lib.hid (heap_last _ _))).mono ?_
      rintro e w2 ⟨rfl, hb2⟩
      rw [HR.out]
      have hWa : Below w1.heap.size w1 (w1.alloc (.cells #[.int .i64 p.1, .int .i64 p.2, .int .i64 q.1, .int .i64 q.2, .int .i64 r.1, .int .i64 r.2, .int .i64 s.1, .int .i64 s.2] 91)) := (Below.refl _ _).alloc (Nat.le_refl _) _
      have hb12 := chain (chain hb1 hWa) hb2
      have hW1 := chain hW hb12
      have hs := hW1.size
      have y3 := cell_later (j := 0) O1.out hb12
      have y4 := cell_later (j := 1) O1.out hb12
      have g1 := frozen_later O1.out hb12 0
      have g2 := frozen_later O1.out hb12 1
      simp at y3 y4
      go_wp2
      refine bodyPost_ret (v := .tuple #[bandV rr.lo rr.hi, .int .i64 rr.e]) (by simp [results, Tryz.results73, go_sem, y3, y4]) rfl ⟨rfl, (hW1.setCell (by simp <;> omega) _).setCell (by simp <;> omega) _⟩
    · clear h0 hx hxy hy hz hzt ht
      go_enter Tryz.func73, Tryz.ntmps73
      go_wp2_with fail
      refine (corners_any _ x y z t 74 (fun _ _ => by kernel_rfl) p q r s H1 H2 H3 H4).mono ?_
      rintro e w1 ⟨rfl, hb1⟩
      have hsz1 := hb1.size
      simp at hsz1
      go_wp2_with fail
      refine (round4_any _ w1.heap.size 91 p q r s (Lib.hid (heap_last _ _))).mono ?_
      rintro e w2 ⟨rfl, hb2⟩
      rw [HR.out]
      have hWa : Below w1.heap.size w1 (w1.alloc (.cells #[.int .i64 p.1, .int .i64 p.2, .int .i64 q.1, .int .i64 q.2, .int .i64 r.1, .int .i64 r.2, .int .i64 s.1, .int .i64 s.2] 91)) := (Below.refl _ _).alloc (Nat.le_refl _) _
      have hb12 := chain (chain hb1 hWa) hb2
      have hW1 := chain hW hb12
      have hs := hW1.size
      have y3 := cell_later (j := 0) O1.out hb12
      have y4 := cell_later (j := 1) O1.out hb12
      have g1 := frozen_later O1.out hb12 0
      have g2 := frozen_later O1.out hb12 1
      simp at y3 y4
      go_wp2
      refine bodyPost_ret (v := .tuple #[bandV rr.lo rr.hi, .int .i64 rr.e]) (by simp [results, Tryz.results73, go_sem, y3, y4]) rfl ⟨rfl, (hW1.setCell (by simp <;> omega) _).setCell (by simp <;> omega) _⟩

set_option maxHeartbeats 2000000 in
theorem div_b (w : World) (x y z t : Int) : Calls Tryz.prog 23 #[bandV x y, bandV z t] w (RetB w (divB x y z t)) := by
  have hmf : ∀ (fn : Fn) (first cap : Array Value) (w : World), (Instr.makeFunc fn first cap).run Tryz.prog w = .ok (.func fn first cap) w := fun _ _ _ _ => rfl
  obtain ⟨r, hr⟩ : ∃ r, divB x y z t = r := ⟨_, rfl⟩
  rw [hr]
  have HR := Lib.hid hr
  clear hr
  have HR' : Hid (twoB x y z t (if z ≤ 0 ∧ 0 ≤ t then .bad 7 else rndB ((divL x y z t).map ovV)) = r) := HR
  have hW : Below w.heap.size w ((((w.alloc (.cells #[.int .i64 x, .int .i64 y] 23)).alloc (.cells #[.int .i64 z, .int .i64 t] 23)).alloc (.cells #[.int .i64 0, .int .i64 0] 23)).alloc (.cells #[.int .i64 x, .int .i64 y, .int .i64 z, .int .i64 t] 23)) := (((((Below.refl w.heap.size w).alloc (Nat.le_refl _) _).alloc (by simp <;> omega) _).alloc (by simp <;> omega) _).alloc (by simp <;> omega) _)
  have o1 := heap_more (heap_more (heap_more (heap_last w (.cells #[.int .i64 x, .int .i64 y] 23)) (.cells #[.int .i64 z, .int .i64 t] 23)) (.cells #[.int .i64 0, .int .i64 0] 23)) (.cells #[.int .i64 x, .int .i64 y, .int .i64 z, .int .i64 t] 23)
  have O1 := Lib.hid o1
  clear o1
  have o2 := heap_more (heap_more (heap_last (w.alloc (.cells #[.int .i64 x, .int .i64 y] 23)) (.cells #[.int .i64 z, .int .i64 t] 23)) (.cells #[.int .i64 0, .int .i64 0] 23)) (.cells #[.int .i64 x, .int .i64 y, .int .i64 z, .int .i64 t] 23)
  rw [show (w.alloc (.cells #[.int .i64 x, .int .i64 y] 23)).heap.size = w.heap.size + 1 by simp] at o2
  have O2 := Lib.hid o2
  clear o2
  have o3 := heap_more (heap_last ((w.alloc (.cells #[.int .i64 x, .int .i64 y] 23)).alloc (.cells #[.int .i64 z, .int .i64 t] 23)) (.cells #[.int .i64 0, .int .i64 0] 23)) (.cells #[.int .i64 x, .int .i64 y, .int .i64 z, .int .i64 t] 23)
  rw [show ((w.alloc (.cells #[.int .i64 x, .int .i64 y] 23)).alloc (.cells #[.int .i64 z, .int .i64 t] 23)).heap.size = w.heap.size + 1 + 1 by simp] at o3
  have O3 := Lib.hid o3
  clear o3
  have o4 := heap_last (((w.alloc (.cells #[.int .i64 x, .int .i64 y] 23)).alloc (.cells #[.int .i64 z, .int .i64 t] 23)).alloc (.cells #[.int .i64 0, .int .i64 0] 23)) (.cells #[.int .i64 x, .int .i64 y, .int .i64 z, .int .i64 t] 23)
  rw [show (((w.alloc (.cells #[.int .i64 x, .int .i64 y] 23)).alloc (.cells #[.int .i64 z, .int .i64 t] 23)).alloc (.cells #[.int .i64 0, .int .i64 0] 23)).heap.size = w.heap.size + 1 + 1 + 1 by simp] at o4
  have O4 := Lib.hid o4
  clear o4
  have hsz : ((((w.alloc (.cells #[.int .i64 x, .int .i64 y] 23)).alloc (.cells #[.int .i64 z, .int .i64 t] 23)).alloc (.cells #[.int .i64 0, .int .i64 0] 23)).alloc (.cells #[.int .i64 x, .int .i64 y, .int .i64 z, .int .i64 t] 23)).heap.size = w.heap.size + 1 + 1 + 1 + 1 := by simp
  have HSZ := Lib.hid hsz
  clear hsz
  go_enter Tryz.func23, Tryz.ntmps23
  go_wp2_with fail
  refine (checked2_any 73 (fun _ _ => by kernel_rfl) #[.pointer (some ⟨w.heap.size + 1, 0, none⟩), .pointer (some ⟨w.heap.size, 0, none⟩)] _ (w.heap.size + 1 + 1 + 1) x y z t 23 (Lib.hid O4.out) (if z ≤ 0 ∧ 0 ≤ t then .bad 7 else rndB ((divL x y z t).map ovV)) (fun hok hok' w' hb' => divclo_any w' _ _ _ _ (Lib.hid (blk_later O2.out hb')) _ _ _ _ (Lib.hid (blk_later O1.out hb')) ((ok_iff x y).1 hok).1 ((ok_iff x y).1 hok).2.1 ((ok_iff x y).1 hok).2.2 ((ok_iff z t).1 hok').1 ((ok_iff z t).1 hok').2.1 ((ok_iff z t).1 hok').2.2)).mono ?_
  rintro e w1 ⟨rfl, hb1⟩
  rw [HR'.out]
  have hW1 := chain hW hb1
  have hs := hW1.size
  have y3 := cell_later (j := 0) O3.out hb1
  have y4 := cell_later (j := 1) O3.out hb1
  have g1 := frozen_later O3.out hb1 0
  have g2 := frozen_later O3.out hb1 1
  simp at y3 y4
  go_wp2
  refine bodyPost_ret (v := .tuple #[bandV r.lo r.hi, .int .i64 r.e]) (by simp [results, Tryz.results23, go_sem, y3, y4]) rfl ⟨rfl, (hW1.setCell (by simp <;> omega) _).setCell (by simp <;> omega) _⟩

end Go.Proofs.YtkajibniibjblaaGreatDoor

namespace Go.Proofs.YtkajibniibjblaaGreatDoor
open Go.RowKit
set_option maxRecDepth 100000

theorem neg_c (w : World) (x y : Int) : Calls Tryz.prog 13 #[bandV x y] w (RetB w (negB x y)) := neg_b w x y

theorem abs_c (w : World) (x y : Int) : Calls Tryz.prog 52 #[bandV x y] w (RetB w (absB x y)) := abs_b w x y

theorem sub_c (w : World) (x y z t : Int) : Calls Tryz.prog 14 #[bandV x y, bandV z t] w (RetB w (subB x y z t)) := sub_b w x y z t

theorem clamp_c (w : World) (x y l h : Int) : Calls Tryz.prog 21 #[bandV x y, .int .i64 l, .int .i64 h] w (RetB w (clampB x y l h)) := clamp_b w x y l h

set_option maxHeartbeats 2000000 in
theorem sqr_b (w : World) (x y : Int) : Calls Tryz.prog 49 #[bandV x y] w (RetB w (sqrB x y)) := by
  obtain ⟨s, hs0⟩ : ∃ s, absB x y = s := ⟨_, rfl⟩
  have HA := Lib.hid hs0
  by_cases h : s.e = 0
  · obtain ⟨r, hr⟩ : ∃ r, mulB s.lo s.hi s.lo s.hi = r := ⟨_, rfl⟩
    rw [show sqrB x y = r by rw [sqrB, hs0, if_pos h, hr]]
    have HR := Lib.hid hr
    clear hr hs0
    have hW : Below w.heap.size w ((w.alloc (.cells #[.int .i64 x, .int .i64 y] 23)).alloc (.cells #[.int .i64 0, .int .i64 0] 23)) := (((Below.refl w.heap.size w).alloc (Nat.le_refl _) _).alloc (by simp <;> omega) _)
    have o1 := heap_more (heap_last w (.cells #[.int .i64 x, .int .i64 y] 23)) (.cells #[.int .i64 0, .int .i64 0] 23)
    have O1 := Lib.hid o1
    clear o1
    have o2 := heap_last (w.alloc (.cells #[.int .i64 x, .int .i64 y] 23)) (.cells #[.int .i64 0, .int .i64 0] 23)
    rw [show (w.alloc (.cells #[.int .i64 x, .int .i64 y] 23)).heap.size = w.heap.size + 1 by simp] at o2
    have O2 := Lib.hid o2
    clear o2
    have hsz : ((w.alloc (.cells #[.int .i64 x, .int .i64 y] 23)).alloc (.cells #[.int .i64 0, .int .i64 0] 23)).heap.size = w.heap.size + 1 + 1 := by simp
    have HSZ := Lib.hid hsz
    clear hsz
    go_enter Tryz.func49, Tryz.ntmps49
    go_wp2_with fail
    refine (abs_c _ x y).mono ?_
    rintro e w1 ⟨rfl, hb1⟩
    rw [HA.out]
    have hWa : Below w1.heap.size w1 (w1.alloc (.cells #[.int .i64 s.lo, .int .i64 s.hi] 23)) := (Below.refl _ _).alloc (Nat.le_refl _) _
    have hsz1 := hb1.size
    simp at hsz1
    go_wp2_with fail
    refine (mul_b _ s.lo s.hi s.lo s.hi).mono ?_
    rintro e w2 ⟨rfl, hb2⟩
    rw [HR.out]
    have hb12 := chain (chain hb1 hWa) hb2
    have hW1 := chain hW hb12
    have hs := hW1.size
    have y3 := cell_later (j := 0) O2.out hb12
    have y4 := cell_later (j := 1) O2.out hb12
    have g1 := frozen_later O2.out hb12 0
    have g2 := frozen_later O2.out hb12 1
    simp at y3 y4
    go_wp2
    refine bodyPost_ret (v := .tuple #[bandV r.lo r.hi, .int .i64 r.e]) (by simp [results, Tryz.results49, go_sem, y3, y4]) rfl ⟨rfl, (hW1.setCell (by simp <;> omega) _).setCell (by simp <;> omega) _⟩
  · obtain ⟨r, hr⟩ : ∃ r : BR, BR.bad s.e = r := ⟨_, rfl⟩
    rw [show sqrB x y = BR.bad s.e by rw [sqrB, hs0, if_neg h]]
    clear hr hs0
    have hW : Below w.heap.size w ((w.alloc (.cells #[.int .i64 x, .int .i64 y] 23)).alloc (.cells #[.int .i64 0, .int .i64 0] 23)) := (((Below.refl w.heap.size w).alloc (Nat.le_refl _) _).alloc (by simp <;> omega) _)
    have o1 := heap_more (heap_last w (.cells #[.int .i64 x, .int .i64 y] 23)) (.cells #[.int .i64 0, .int .i64 0] 23)
    have O1 := Lib.hid o1
    clear o1
    have o2 := heap_last (w.alloc (.cells #[.int .i64 x, .int .i64 y] 23)) (.cells #[.int .i64 0, .int .i64 0] 23)
    rw [show (w.alloc (.cells #[.int .i64 x, .int .i64 y] 23)).heap.size = w.heap.size + 1 by simp] at o2
    have O2 := Lib.hid o2
    clear o2
    have hsz : ((w.alloc (.cells #[.int .i64 x, .int .i64 y] 23)).alloc (.cells #[.int .i64 0, .int .i64 0] 23)).heap.size = w.heap.size + 1 + 1 := by simp
    have HSZ := Lib.hid hsz
    clear hsz
    go_enter Tryz.func49, Tryz.ntmps49
    go_wp2_with fail
    refine (abs_c _ x y).mono ?_
    rintro e w1 ⟨rfl, hb1⟩
    rw [HA.out]
    have hsz1 := hb1.size
    simp at hsz1
    have hWa : Below w1.heap.size w1 (w1.alloc (.cells #[.int .i64 s.lo, .int .i64 s.hi] 23)) := (Below.refl _ _).alloc (Nat.le_refl _) _
    have hb12 := chain hb1 hWa
    have hW1 := chain hW hb12
    have hs := hW1.size
    have y3 := cell_later (j := 0) O2.out hb12
    have y4 := cell_later (j := 1) O2.out hb12
    have g1 := frozen_later O2.out hb12 0
    have g2 := frozen_later O2.out hb12 1
    simp at y3 y4
    go_wp2
    refine bodyPost_ret (v := .tuple #[bandV 0 0, .int .i64 s.e]) (by simp [results, Tryz.results49, go_sem, y3, y4]) rfl ⟨rfl, (hW1.setCell (by simp <;> omega) _).setCell (by simp <;> omega) _⟩

end Go.Proofs.YtkajibniibjblaaGreatDoor

namespace Go.Proofs.YtkajibniibjblaaGreatDoor
open Go.RowKit
set_option maxRecDepth 100000

theorem heap_lastD (w : World) (o : Obj) : ((w.alloc o).drew).heap[w.heap.size]? = some o := heap_last w o
/-- Where a new block of two cells lies, behind a region that may make it at any time. -/
def Made2 (B : Nat) (W : World) (p : Value) (v0 v1 : Value) (wx : World) : Prop := ∃ g, p = .pointer (some ⟨g, 0, none⟩) ∧ B ≤ g ∧ wx.cell? ⟨g, 0, none⟩ = some v0 ∧ wx.cell? ⟨g, 1, none⟩ = some v1 ∧ Below W.heap.size W wx
theorem made_last {W w3 : World} {v0 v1 : Value} {T : TypeId} (h : Below W.heap.size W w3) : Made2 W.heap.size W (.pointer (some ⟨w3.heap.size, 0, none⟩)) v0 v1 (w3.alloc (.cells #[v0, v1] T)) :=
  ⟨_, rfl, h.size, by simp [World.cell?_alloc_new], by simp [World.cell?_alloc_new], h.alloc h.size _⟩
theorem made_set {W w3 : World} {g : Nat} {v0 v1 u0 u1 : Value} (hg : W.heap.size ≤ g) (h0 : w3.cell? ⟨g, 0, none⟩ = some u0) (h1 : w3.cell? ⟨g, 1, none⟩ = some u1) (h : Below W.heap.size W w3) :
    Made2 W.heap.size W (.pointer (some ⟨g, 0, none⟩)) v0 v1 ((w3.setCell ⟨g, 0, none⟩ v0).setCell ⟨g, 1, none⟩ v1) :=
  ⟨_, rfl, hg, (World.cell?_setCell_other _ _ _ _ (by simp)).trans (World.cell?_setCell_same _ _ _ h0), World.cell?_setCell_same _ _ _ ((World.cell?_setCell_other _ _ _ _ (by simp)).trans h1), (h.setCell hg _).setCell hg _⟩

set_option maxHeartbeats 4000000 in
theorem meet_b (w : World) (x y z t : Int) : Calls Tryz.prog 16 #[bandV x y, bandV z t] w (RetB w (meetB x y z t)) := by
  obtain ⟨m, hm⟩ : ∃ m, meetB0 x y z t = m := ⟨_, rfl⟩
  have HM : Hid (twoB x y z t (fitB (max x z) (min y t)) = m) := hm
  have hr : meetB x y z t = if m.e = 6 then .bad 4 else m := by rw [meetB, hm]
  obtain ⟨r, hr2⟩ : ∃ r, meetB x y z t = r := ⟨_, rfl⟩
  rw [hr2] at hr ⊢
  have HQ := Lib.hid hr
  clear hr hm hr2
  have hW : Below w.heap.size w (((w.alloc (.cells #[.int .i64 x, .int .i64 y] 23)).alloc (.cells #[.int .i64 z, .int .i64 t] 23)).alloc (.cells #[.int .i64 0, .int .i64 0] 23)) := ((((Below.refl w.heap.size w).alloc (Nat.le_refl _) _).alloc (by simp <;> omega) _).alloc (by simp <;> omega) _)
  have o1 := heap_more (heap_more (heap_last w (.cells #[.int .i64 x, .int .i64 y] 23)) (.cells #[.int .i64 z, .int .i64 t] 23)) (.cells #[.int .i64 0, .int .i64 0] 23)
  have O1 := Lib.hid o1
  clear o1
  have o2 := heap_more (heap_last (w.alloc (.cells #[.int .i64 x, .int .i64 y] 23)) (.cells #[.int .i64 z, .int .i64 t] 23)) (.cells #[.int .i64 0, .int .i64 0] 23)
  rw [show (w.alloc (.cells #[.int .i64 x, .int .i64 y] 23)).heap.size = w.heap.size + 1 by simp] at o2
  have O2 := Lib.hid o2
  clear o2
  have o3 := heap_last ((w.alloc (.cells #[.int .i64 x, .int .i64 y] 23)).alloc (.cells #[.int .i64 z, .int .i64 t] 23)) (.cells #[.int .i64 0, .int .i64 0] 23)
  rw [show ((w.alloc (.cells #[.int .i64 x, .int .i64 y] 23)).alloc (.cells #[.int .i64 z, .int .i64 t] 23)).heap.size = w.heap.size + 1 + 1 by simp] at o3
  have O3 := Lib.hid o3
  clear o3
  have hsz : (((w.alloc (.cells #[.int .i64 x, .int .i64 y] 23)).alloc (.cells #[.int .i64 z, .int .i64 t] 23)).alloc (.cells #[.int .i64 0, .int .i64 0] 23)).heap.size = w.heap.size + 1 + 1 + 1 := by simp
  have HSZ := Lib.hid hsz
  clear hsz
  have HS : Hid (∀ w', Below (w.heap.size + 1 + 1) (((w.alloc (.cells #[.int .i64 x, .int .i64 y] 23)).alloc (.cells #[.int .i64 z, .int .i64 t] 23)).alloc (.cells #[.int .i64 0, .int .i64 0] 23)) w' → w'.cell? ⟨w.heap.size, 0, none⟩ = some (.int .i64 x) ∧ w'.cell? ⟨w.heap.size, 1, none⟩ = some (.int .i64 y) ∧ w'.cell? ⟨w.heap.size + 1, 0, none⟩ = some (.int .i64 z) ∧ w'.cell? ⟨w.heap.size + 1, 1, none⟩ = some (.int .i64 t)) := fun w' h => ⟨cell_at O1.out (by omega) h, cell_at O1.out (by omega) h, cell_at O2.out (by omega) h, cell_at O2.out (by omega) h⟩
  have hc0 : Below (((w.alloc (.cells #[.int .i64 x, .int .i64 y] 23)).alloc (.cells #[.int .i64 z, .int .i64 t] 23)).alloc (.cells #[.int .i64 0, .int .i64 0] 23)).heap.size (((w.alloc (.cells #[.int .i64 x, .int .i64 y] 23)).alloc (.cells #[.int .i64 z, .int .i64 t] 23)).alloc (.cells #[.int .i64 0, .int .i64 0] 23)) (((w.alloc (.cells #[.int .i64 x, .int .i64 y] 23)).alloc (.cells #[.int .i64 z, .int .i64 t] 23)).alloc (.cells #[.int .i64 0, .int .i64 0] 23)).drew := (Below.refl _ _).drew
  have hle : w.heap.size + 1 + 1 ≤ (((w.alloc (.cells #[.int .i64 x, .int .i64 y] 23)).alloc (.cells #[.int .i64 z, .int .i64 t] 23)).alloc (.cells #[.int .i64 0, .int .i64 0] 23)).heap.size := by simp
  have hm0 := hc0.mono hle
  have hc0a : Below (((w.alloc (.cells #[.int .i64 x, .int .i64 y] 23)).alloc (.cells #[.int .i64 z, .int .i64 t] 23)).alloc (.cells #[.int .i64 0, .int .i64 0] 23)).heap.size (((w.alloc (.cells #[.int .i64 x, .int .i64 y] 23)).alloc (.cells #[.int .i64 z, .int .i64 t] 23)).alloc (.cells #[.int .i64 0, .int .i64 0] 23)) ((((w.alloc (.cells #[.int .i64 x, .int .i64 y] 23)).alloc (.cells #[.int .i64 z, .int .i64 t] 23)).alloc (.cells #[.int .i64 0, .int .i64 0] 23)).alloc (.cells #[.int .i64 0, .int .i64 0] 23)).drew := ((Below.refl _ _).alloc (Nat.le_refl _) _).drew
  have hm0a := hc0a.mono hle
  go_enter Tryz.func16, Tryz.ntmps16
  go_upto_region 1 with fail
  go_cut [6, 7] (fun p6 e7 wx => e7 = .int .i64 m.e ∧ Made2 (((w.alloc (.cells #[.int .i64 x, .int .i64 y] 23)).alloc (.cells #[.int .i64 z, .int .i64 t] 23)).alloc (.cells #[.int .i64 0, .int .i64 0] 23)).heap.size (((w.alloc (.cells #[.int .i64 x, .int .i64 y] 23)).alloc (.cells #[.int .i64 z, .int .i64 t] 23)).alloc (.cells #[.int .i64 0, .int .i64 0] 23)) p6 (.int .i64 m.lo) (.int .i64 m.hi) wx)
  case first =>
    go_region_held3 (fun w' => w'.cell? ⟨w.heap.size, 0, none⟩ = some (.int .i64 x) ∧ w'.cell? ⟨w.heap.size, 1, none⟩ = some (.int .i64 y) ∧ w'.cell? ⟨w.heap.size + 1, 0, none⟩ = some (.int .i64 z) ∧ w'.cell? ⟨w.heap.size + 1, 1, none⟩ = some (.int .i64 t))
      (first | with_reducible exact HS.out _ hm0 | with_reducible exact HS.out _ hm1 | with_reducible exact HS.out _ hm2 | with_reducible exact HS.out _ hm3 | with_reducible exact HS.out _ (hm0.alloc (by simp) _) | with_reducible exact HS.out _ (hm1.alloc (Nat.le_trans hle hc1.size) _) | with_reducible exact HS.out _ (hm2.alloc (Nat.le_trans hle hc2.size) _) | with_reducible exact HS.out _ (hm3.alloc (Nat.le_trans hle hc3.size) _) | with_reducible exact HS.out _ hm0a | with_reducible exact HS.out _ ((hm3.setCell (Nat.le_trans hle hc2.size) _).setCell (Nat.le_trans hle hc2.size) _) | with_reducible exact HS.out _ ((hm3.setCell (Nat.le_trans hle hc1.size) _).setCell (Nat.le_trans hle hc1.size) _) | exact HS.out _ ((hm3.setCell (by simp) _).setCell (by simp) _))
      (first
        | (go_at_call 68; (refine (most_side _).mono ?_); rintro e w1 ⟨rfl, hb1⟩; have hc1 : Below (((w.alloc (.cells #[.int .i64 x, .int .i64 y] 23)).alloc (.cells #[.int .i64 z, .int .i64 t] 23)).alloc (.cells #[.int .i64 0, .int .i64 0] 23)).heap.size (((w.alloc (.cells #[.int .i64 x, .int .i64 y] 23)).alloc (.cells #[.int .i64 z, .int .i64 t] 23)).alloc (.cells #[.int .i64 0, .int .i64 0] 23)) w1 := (by first | with_reducible exact chain hc0a hb1 | with_reducible exact chain hc0 hb1 | with_reducible exact chain (hc0.alloc hc0.size _) hb1); have hm1 := hc1.mono hle; (try (with_reducible have ga0 := cell_later (j := 0) (heap_last _ _) hb1; with_reducible have ga1 := cell_later (j := 1) (heap_last _ _) hb1; with_reducible have gf0 := frozen_later (heap_last _ _) hb1 0; with_reducible have gf1 := frozen_later (heap_last _ _) hb1 1; simp at ga0 ga1; (try simp at gf0 gf1))); (try (with_reducible have ga0 := cell_later (j := 0) (heap_lastD _ _) hb1; with_reducible have ga1 := cell_later (j := 1) (heap_lastD _ _) hb1; with_reducible have gf0 := frozen_later (heap_lastD _ _) hb1 0; with_reducible have gf1 := frozen_later (heap_lastD _ _) hb1 1; simp at ga0 ga1; (try simp at gf0 gf1))); (try (with_reducible have gf0 := (hb1.frozen (World.block_lt_of_cell? _ _ ga0)).trans gf0; with_reducible have gf1 := (hb1.frozen (World.block_lt_of_cell? _ _ ga1)).trans gf1; with_reducible have ga0 := (hb1.cell (World.block_lt_of_cell? _ _ ga0)).trans ga0; with_reducible have ga1 := (hb1.cell (World.block_lt_of_cell? _ _ ga1)).trans ga1)))
        | (go_at_call 67; (refine (least_side _).mono ?_); rintro e w2 ⟨rfl, hb2⟩; have hc2 : Below (((w.alloc (.cells #[.int .i64 x, .int .i64 y] 23)).alloc (.cells #[.int .i64 z, .int .i64 t] 23)).alloc (.cells #[.int .i64 0, .int .i64 0] 23)).heap.size (((w.alloc (.cells #[.int .i64 x, .int .i64 y] 23)).alloc (.cells #[.int .i64 z, .int .i64 t] 23)).alloc (.cells #[.int .i64 0, .int .i64 0] 23)) w2 := (by first | with_reducible exact chain hc0a hb2 | with_reducible exact chain hc1 hb2 | with_reducible exact chain (hc1.alloc hc1.size _) hb2); have hm2 := hc2.mono hle; (try (with_reducible have ga0 := cell_later (j := 0) (heap_last _ _) hb2; with_reducible have ga1 := cell_later (j := 1) (heap_last _ _) hb2; with_reducible have gf0 := frozen_later (heap_last _ _) hb2 0; with_reducible have gf1 := frozen_later (heap_last _ _) hb2 1; simp at ga0 ga1; (try simp at gf0 gf1))); (try (with_reducible have ga0 := cell_later (j := 0) (heap_lastD _ _) hb2; with_reducible have ga1 := cell_later (j := 1) (heap_lastD _ _) hb2; with_reducible have gf0 := frozen_later (heap_lastD _ _) hb2 0; with_reducible have gf1 := frozen_later (heap_lastD _ _) hb2 1; simp at ga0 ga1; (try simp at gf0 gf1))); (try (with_reducible have gf0 := (hb2.frozen (World.block_lt_of_cell? _ _ ga0)).trans gf0; with_reducible have gf1 := (hb2.frozen (World.block_lt_of_cell? _ _ ga1)).trans gf1; with_reducible have ga0 := (hb2.cell (World.block_lt_of_cell? _ _ ga0)).trans ga0; with_reducible have ga1 := (hb2.cell (World.block_lt_of_cell? _ _ ga1)).trans ga1)))
        | (go_at_call 56; (refine (sides_any _ x y z t (max x z) (min y t) 121 120 (Lib.hid (fun _ _ => by kernel_rfl)) (Lib.hid (fun _ _ => by kernel_rfl)) (fun _ _ _ w' _ => mostclo_any w' x z) (fun _ _ _ w' _ => leastclo_any w' y t)).mono ?_); rintro e w3 ⟨rfl, hb3⟩; rw [HM.out]; have hc3 : Below (((w.alloc (.cells #[.int .i64 x, .int .i64 y] 23)).alloc (.cells #[.int .i64 z, .int .i64 t] 23)).alloc (.cells #[.int .i64 0, .int .i64 0] 23)).heap.size (((w.alloc (.cells #[.int .i64 x, .int .i64 y] 23)).alloc (.cells #[.int .i64 z, .int .i64 t] 23)).alloc (.cells #[.int .i64 0, .int .i64 0] 23)) w3 := (by first | with_reducible exact chain hc0a hb3 | with_reducible exact chain hc2 hb3 | with_reducible exact chain (hc2.alloc hc2.size _) hb3); have hm3 := hc3.mono hle; (try (with_reducible have ga0 := cell_later (j := 0) (heap_last _ _) hb3; with_reducible have ga1 := cell_later (j := 1) (heap_last _ _) hb3; with_reducible have gf0 := frozen_later (heap_last _ _) hb3 0; with_reducible have gf1 := frozen_later (heap_last _ _) hb3 1; simp at ga0 ga1; (try simp at gf0 gf1))); (try (with_reducible have ga0 := cell_later (j := 0) (heap_lastD _ _) hb3; with_reducible have ga1 := cell_later (j := 1) (heap_lastD _ _) hb3; with_reducible have gf0 := frozen_later (heap_lastD _ _) hb3 0; with_reducible have gf1 := frozen_later (heap_lastD _ _) hb3 1; simp at ga0 ga1; (try simp at gf0 gf1))); (try (with_reducible have gf0 := (hb3.frozen (World.block_lt_of_cell? _ _ ga0)).trans gf0; with_reducible have gf1 := (hb3.frozen (World.block_lt_of_cell? _ _ ga1)).trans gf1; with_reducible have ga0 := (hb3.cell (World.block_lt_of_cell? _ _ ga0)).trans ga0; with_reducible have ga1 := (hb3.cell (World.block_lt_of_cell? _ _ ga1)).trans ga1))))
    all_goals (
      go_wp2_with fail
      go_meet
      refine ⟨rfl, ?_⟩
      first
        | with_reducible exact made_last hc3
        | with_reducible exact made_set hc2.size ga0 ga1 hc3
        | with_reducible exact made_set hc1.size ga0 ga1 hc3
        | exact made_set (by simp) ga0 ga1 hc3)
  case rest =>
    obtain ⟨rfl, g, rfl, hg, hv0, hv1, hbc⟩ := hcut
    have hW1 := chain hW hbc
    have hs := hW1.size
    have y3 := cell_later (j := 0) O3.out hbc
    have y4 := cell_later (j := 1) O3.out hbc
    have g1 := frozen_later O3.out hbc 0
    have g2 := frozen_later O3.out hbc 1
    simp at y3 y4
    by_cases h6 : m.e = 6
    · have HE : Hid (r = .bad 4) := by show _ = _; rw [HQ.out, if_pos h6]
      go_wp2
      refine bodyPost_ret (v := .tuple #[bandV 0 0, .int .i64 4]) (by simp [results, Tryz.results16, go_sem, y3, y4]) rfl ⟨by rw [HE.out]; rfl, (hW1.setCell (by simp <;> omega) _).setCell (by simp <;> omega) _⟩
    · have HE : Hid (r = m) := by show _ = _; rw [HQ.out, if_neg h6]
      go_wp2
      refine bodyPost_ret (v := .tuple #[bandV m.lo m.hi, .int .i64 m.e]) (by simp [results, Tryz.results16, go_sem, y3, y4]) rfl ⟨by rw [HE.out], (hW1.setCell (by simp <;> omega) _).setCell (by simp <;> omega) _⟩

end Go.Proofs.YtkajibniibjblaaGreatDoor
