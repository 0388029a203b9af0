/-
  the pairs of bands of BandOrders.
-/
import Derived.Test.YtkajibniibjblaaGreatDoorDrafts
import Derived.Deep.RegionHeld3
namespace Go.Proofs.YtkajibniibjblaaGreatDoor
open Go.RowKit
set_option maxRecDepth 100000

set_option maxHeartbeats 8000000 in
theorem pairs_any (w : World) (a0 a1 b0 b1 ax ux ay uy : Int) (hx0 : -9223372036854775808 ≤ ax) (hx1 : ax ≤ 9223372036854775807) (hx2 : 0 ≤ ux) (hx3 : ux ≤ 4294967295) (hy0 : -9223372036854775808 ≤ ay) (hy1 : ay ≤ 9223372036854775807) (hy2 : 0 ≤ uy) (hy3 : uy ≤ 4294967295) :
    Calls Tryz.prog 10 #[.agg #[.int .i64 a0, .int .i64 a1, .int .i64 b0, .int .i64 b1, .int .i64 ax, .int .u32 ux, .int .i64 ay, .int .u32 uy]] w fun e w' => ∃ g x1 x2 y1 y2 s1 s2 t1 t2 ua ub v1 v2 z1 z2, e = .returned (.slice (some ⟨g, 0, none⟩) 5 5) ∧ Hid (Blk w' g #[.int .i64 a0, .int .i64 a1, .int .i64 b0, .int .i64 b1, .int .i64 x1, .int .i64 x2, .int .i64 y1, .int .i64 y2, .int .i64 s1, .int .i64 s2, .int .i64 t1, .int .i64 t2, .int .i64 ua, .int .i64 ub, .int .i64 v1, .int .i64 v2, .int .i64 z1, .int .i64 z2, .int .i64 b0, .int .i64 b1] 32) ∧ Hid (okB x1 x2 = true ∧ okB y1 y2 = true) ∧ Hid (okB s1 s2 = true ∧ okB t1 t2 = true) ∧ Hid (okB ua ub = true ∧ okB v1 v2 = true) ∧ Below w.heap.size w w' := by
  have hW : Below w.heap.size w (w.alloc (.cells #[.int .i64 a0, .int .i64 a1, .int .i64 b0, .int .i64 b1, .int .i64 ax, .int .u32 ux, .int .i64 ay, .int .u32 uy] 28)) := ((Below.refl w.heap.size w).alloc (Nat.le_refl _) _)
  have o1 := heap_last w (.cells #[.int .i64 a0, .int .i64 a1, .int .i64 b0, .int .i64 b1, .int .i64 ax, .int .u32 ux, .int .i64 ay, .int .u32 uy] 28)
  have O1 := Lib.hid o1
  clear o1
  have hsz : (w.alloc (.cells #[.int .i64 a0, .int .i64 a1, .int .i64 b0, .int .i64 b1, .int .i64 ax, .int .u32 ux, .int .i64 ay, .int .u32 uy] 28)).heap.size = w.heap.size + 1 := by simp
  have HSZ := Lib.hid hsz
  clear hsz
  have HS : Hid (∀ w', Below (w.alloc (.cells #[.int .i64 a0, .int .i64 a1, .int .i64 b0, .int .i64 b1, .int .i64 ax, .int .u32 ux, .int .i64 ay, .int .u32 uy] 28)).heap.size (w.alloc (.cells #[.int .i64 a0, .int .i64 a1, .int .i64 b0, .int .i64 b1, .int .i64 ax, .int .u32 ux, .int .i64 ay, .int .u32 uy] 28)) w' → w'.cell? ⟨w.heap.size, 0, none⟩ = some (.int .i64 a0) ∧ w'.cell? ⟨w.heap.size, 1, none⟩ = some (.int .i64 a1) ∧ w'.cell? ⟨w.heap.size, 2, none⟩ = some (.int .i64 b0) ∧ w'.cell? ⟨w.heap.size, 3, none⟩ = some (.int .i64 b1) ∧ w'.cell? ⟨w.heap.size, 4, none⟩ = some (.int .i64 ax) ∧ w'.cell? ⟨w.heap.size, 5, none⟩ = some (.int .u32 ux) ∧ w'.cell? ⟨w.heap.size, 6, none⟩ = some (.int .i64 ay) ∧ w'.cell? ⟨w.heap.size, 7, none⟩ = some (.int .u32 uy)) := fun w' h => ⟨cell_later O1.out h, cell_later O1.out h, cell_later O1.out h, cell_later O1.out h, cell_later O1.out h, cell_later O1.out h, cell_later O1.out h, cell_later O1.out h⟩
  have hc0 : Below (w.alloc (.cells #[.int .i64 a0, .int .i64 a1, .int .i64 b0, .int .i64 b1, .int .i64 ax, .int .u32 ux, .int .i64 ay, .int .u32 uy] 28)).heap.size (w.alloc (.cells #[.int .i64 a0, .int .i64 a1, .int .i64 b0, .int .i64 b1, .int .i64 ax, .int .u32 ux, .int .i64 ay, .int .u32 uy] 28)) (w.alloc (.cells #[.int .i64 a0, .int .i64 a1, .int .i64 b0, .int .i64 b1, .int .i64 ax, .int .u32 ux, .int .i64 ay, .int .u32 uy] 28)).drew := (Below.refl _ _).drew
  go_enter Tryz.func10, Tryz.ntmps10
  go_wp2_with fail
  go_region_held3 (fun w' => w'.cell? ⟨w.heap.size, 0, none⟩ = some (.int .i64 a0) ∧ w'.cell? ⟨w.heap.size, 1, none⟩ = some (.int .i64 a1) ∧ w'.cell? ⟨w.heap.size, 2, none⟩ = some (.int .i64 b0) ∧ w'.cell? ⟨w.heap.size, 3, none⟩ = some (.int .i64 b1) ∧ w'.cell? ⟨w.heap.size, 4, none⟩ = some (.int .i64 ax) ∧ w'.cell? ⟨w.heap.size, 5, none⟩ = some (.int .u32 ux) ∧ w'.cell? ⟨w.heap.size, 6, none⟩ = some (.int .i64 ay) ∧ w'.cell? ⟨w.heap.size, 7, none⟩ = some (.int .u32 uy))
    (first | with_reducible exact HS.out _ hc0 | with_reducible exact HS.out _ hc1 | with_reducible exact HS.out _ hc2 | with_reducible exact HS.out _ hc3 | with_reducible exact HS.out _ hc4 | with_reducible exact HS.out _ hc5 | with_reducible exact HS.out _ hc6 | with_reducible exact HS.out _ hc7 | with_reducible exact HS.out _ (hc7.alloc hc7.size _))
    (first
      | (go_at_call 41; (with_reducible refine (draft_any (w.alloc (.cells #[.int .i64 a0, .int .i64 a1, .int .i64 b0, .int .i64 b1, .int .i64 ax, .int .u32 ux, .int .i64 ay, .int .u32 uy] 28)).drew ax ux hx0 hx1 hx2 hx3).mono ?_); rintro e r1 ⟨x1, x2, rfl, k1, hb1⟩; have hc1 := undrewS hb1)
      | (go_at_call 41; (with_reducible refine (draft_any r1 ay uy hy0 hy1 hy2 hy3).mono ?_); rintro e r2 ⟨y1, y2, rfl, k2, hb2⟩; have hc2 := chain hc1 hb2)
      | (go_at_call 20; (with_reducible refine (small_any r2 ax ux hx0 hx1 hx2 hx3).mono ?_); rintro e r3 ⟨s1, s2, rfl, k3, hb3⟩; have hc3 := chain hc2 hb3)
      | (go_at_call 20; (with_reducible refine (small_any r3 ay uy hy0 hy1 hy2 hy3).mono ?_); rintro e r4 ⟨t1, t2, rfl, k4, hb4⟩; have hc4 := chain hc3 hb4)
      | (go_at_call 41; (with_reducible refine (draft_any r4 ax ux hx0 hx1 hx2 hx3).mono ?_); rintro e r5 ⟨ua, ub, rfl, k5, hb5⟩; have hc5 := chain hc4 hb5)
      | (go_at_call 55; (with_reducible refine (unit_any r5 ay uy hy0 hy1 hy2 hy3).mono ?_); rintro e r6 ⟨v1, v2, rfl, k6, hb6⟩; have hc6 := chain hc5 hb6)
      | (go_at_call 55; (with_reducible refine (unit_any r6 ax ux hx0 hx1 hx2 hx3).mono ?_); rintro e r7 ⟨z1, z2, rfl, k7, hb7⟩; have hc7 := chain hc6 hb7))
  go_wp2
  go_ret
  exact ⟨_, x1, x2, y1, y2, s1, s2, t1, t2, ua, ub, v1, v2, z1, z2, rfl, Lib.hid (heap_last _ _), Lib.hid ⟨k1.out, k2.out⟩, Lib.hid ⟨k3.out.ok, k4.out.ok⟩, Lib.hid ⟨k5.out, k6.out⟩, chain hW (hc7.alloc hc7.size _)⟩

end Go.Proofs.YtkajibniibjblaaGreatDoor
