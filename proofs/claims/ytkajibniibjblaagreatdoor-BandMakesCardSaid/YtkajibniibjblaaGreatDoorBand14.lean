/-
  band: Scale.
-/
import Derived.Test.YtkajibniibjblaaGreatDoorBandB
import Derived.WalkMore
namespace Go.Proofs.YtkajibniibjblaaGreatDoor
open Go.RowKit
set_option maxRecDepth 100000

theorem arr2_0 (W : World) (a b : Int) : (Instr.index 98 (.agg #[.int .i64 a, .int .i64 b]) (.int .i64 0)).run Tryz.prog W = .ok (.int .i64 a) W := by kernel_rfl
theorem arr2_1 (W : World) (a b : Int) : (Instr.index 98 (.agg #[.int .i64 a, .int .i64 b]) (.int .i64 1)).run Tryz.prog W = .ok (.int .i64 b) W := by kernel_rfl

theorem sclbad0 (w : World) (pn : Nat) (Tn : TypeId) (n : Int) (hpn : Hid (Blk w pn #[.int .i64 n] Tn)) (pd : Nat) (Td : TypeId) (d : Int) (hpd : Hid (Blk w pd #[.int .i64 d] Td)) (pb : Nat) (Tb : TypeId) (x y : Int) (hpb : Hid (Blk w pb #[.int .i64 x, .int .i64 y] Tb))  (h0 : n < -1000000000000) :
    Calls Tryz.prog 72 #[.pointer (some ⟨pn, 0, none⟩), .pointer (some ⟨pd, 0, none⟩), .pointer (some ⟨pb, 0, none⟩)] w (RetB w (.bad 2)) := by
  have hi0 := arr2_0
  have hW : Below w.heap.size w (w.alloc (.cells #[.int .i64 0, .int .i64 0] 23)) := ((Below.refl w.heap.size w).alloc (Nat.le_refl _) _)
  have o1 := heap_last w (.cells #[.int .i64 0, .int .i64 0] 23)
  have O1 := Lib.hid o1
  clear o1
  have hsz : (w.alloc (.cells #[.int .i64 0, .int .i64 0] 23)).heap.size = w.heap.size + 1 := by simp
  have HSZ := Lib.hid hsz
  clear hsz
  have lpn : pn < w.heap.size := (Array.getElem?_eq_some_iff.1 hpn.out).1
  have cpn0 : (w.alloc (.cells #[.int .i64 0, .int .i64 0] 23)).cell? ⟨pn, 0, none⟩ = some (.int .i64 n) := cell_later (w1 := w) hpn.out ((Below.refl _ _).alloc (Nat.le_refl _) _)
  have lpd : pd < w.heap.size := (Array.getElem?_eq_some_iff.1 hpd.out).1
  have cpd0 : (w.alloc (.cells #[.int .i64 0, .int .i64 0] 23)).cell? ⟨pd, 0, none⟩ = some (.int .i64 d) := cell_later (w1 := w) hpd.out ((Below.refl _ _).alloc (Nat.le_refl _) _)
  have lpb : pb < w.heap.size := (Array.getElem?_eq_some_iff.1 hpb.out).1
  have cpb0 : (w.alloc (.cells #[.int .i64 0, .int .i64 0] 23)).cell? ⟨pb, 0, none⟩ = some (.int .i64 x) := cell_later (w1 := w) hpb.out ((Below.refl _ _).alloc (Nat.le_refl _) _)
  have cpb1 : (w.alloc (.cells #[.int .i64 0, .int .i64 0] 23)).cell? ⟨pb, 1, none⟩ = some (.int .i64 y) := cell_later (w1 := w) hpb.out ((Below.refl _ _).alloc (Nat.le_refl _) _)
  go_enter Tryz.func72, Tryz.ntmps72
  go_wp2
  go_step3
  go_wp2
  go_step3
  go_wp2
  refine wp_loop_rounds 1 ?_
  rw [rounds_succ]
  go_wp2
  try rw [Exit.noGoto_ret]
  refine bodyPost_ret (v := .tuple #[bandV 0 0, .int .i64 2]) (by simp [results, Tryz.results72, go_sem]) rfl ⟨rfl, ?_⟩
  first
    | exact ((Below.refl _ _).alloc (Nat.le_refl _) _)
    | exact (((Below.refl _ _).alloc (Nat.le_refl _) _).setCell (by simp) _).setCell (by simp) _

theorem sclbad1 (w : World) (pn : Nat) (Tn : TypeId) (n : Int) (hpn : Hid (Blk w pn #[.int .i64 n] Tn)) (pd : Nat) (Td : TypeId) (d : Int) (hpd : Hid (Blk w pd #[.int .i64 d] Td)) (pb : Nat) (Tb : TypeId) (x y : Int) (hpb : Hid (Blk w pb #[.int .i64 x, .int .i64 y] Tb))  (h0 : 1000000000000 < n) :
    Calls Tryz.prog 72 #[.pointer (some ⟨pn, 0, none⟩), .pointer (some ⟨pd, 0, none⟩), .pointer (some ⟨pb, 0, none⟩)] w (RetB w (.bad 2)) := by
  have hi0 := arr2_0
  have hW : Below w.heap.size w (w.alloc (.cells #[.int .i64 0, .int .i64 0] 23)) := ((Below.refl w.heap.size w).alloc (Nat.le_refl _) _)
  have o1 := heap_last w (.cells #[.int .i64 0, .int .i64 0] 23)
  have O1 := Lib.hid o1
  clear o1
  have hsz : (w.alloc (.cells #[.int .i64 0, .int .i64 0] 23)).heap.size = w.heap.size + 1 := by simp
  have HSZ := Lib.hid hsz
  clear hsz
  have lpn : pn < w.heap.size := (Array.getElem?_eq_some_iff.1 hpn.out).1
  have cpn0 : (w.alloc (.cells #[.int .i64 0, .int .i64 0] 23)).cell? ⟨pn, 0, none⟩ = some (.int .i64 n) := cell_later (w1 := w) hpn.out ((Below.refl _ _).alloc (Nat.le_refl _) _)
  have lpd : pd < w.heap.size := (Array.getElem?_eq_some_iff.1 hpd.out).1
  have cpd0 : (w.alloc (.cells #[.int .i64 0, .int .i64 0] 23)).cell? ⟨pd, 0, none⟩ = some (.int .i64 d) := cell_later (w1 := w) hpd.out ((Below.refl _ _).alloc (Nat.le_refl _) _)
  have lpb : pb < w.heap.size := (Array.getElem?_eq_some_iff.1 hpb.out).1
  have cpb0 : (w.alloc (.cells #[.int .i64 0, .int .i64 0] 23)).cell? ⟨pb, 0, none⟩ = some (.int .i64 x) := cell_later (w1 := w) hpb.out ((Below.refl _ _).alloc (Nat.le_refl _) _)
  have cpb1 : (w.alloc (.cells #[.int .i64 0, .int .i64 0] 23)).cell? ⟨pb, 1, none⟩ = some (.int .i64 y) := cell_later (w1 := w) hpb.out ((Below.refl _ _).alloc (Nat.le_refl _) _)
  have d1 : decide (n < -1000000000000) = false := decide_eq_false (by omega)
  go_enter Tryz.func72, Tryz.ntmps72
  go_wp2
  go_step3
  go_wp2
  go_step3
  go_wp2
  refine wp_loop_rounds 1 ?_
  rw [rounds_succ]
  go_wp2
  try rw [Exit.noGoto_ret]
  refine bodyPost_ret (v := .tuple #[bandV 0 0, .int .i64 2]) (by simp [results, Tryz.results72, go_sem]) rfl ⟨rfl, ?_⟩
  first
    | exact ((Below.refl _ _).alloc (Nat.le_refl _) _)
    | exact (((Below.refl _ _).alloc (Nat.le_refl _) _).setCell (by simp) _).setCell (by simp) _

theorem sclbad2 (w : World) (pn : Nat) (Tn : TypeId) (n : Int) (hpn : Hid (Blk w pn #[.int .i64 n] Tn)) (pd : Nat) (Td : TypeId) (d : Int) (hpd : Hid (Blk w pd #[.int .i64 d] Td)) (pb : Nat) (Tb : TypeId) (x y : Int) (hpb : Hid (Blk w pb #[.int .i64 x, .int .i64 y] Tb)) (h1 : -1000000000000 ≤ n) (h2 : n ≤ 1000000000000) (h0 : d < 1) :
    Calls Tryz.prog 72 #[.pointer (some ⟨pn, 0, none⟩), .pointer (some ⟨pd, 0, none⟩), .pointer (some ⟨pb, 0, none⟩)] w (RetB w (.bad 2)) := by
  have hi0 := arr2_0
  have hW : Below w.heap.size w (w.alloc (.cells #[.int .i64 0, .int .i64 0] 23)) := ((Below.refl w.heap.size w).alloc (Nat.le_refl _) _)
  have o1 := heap_last w (.cells #[.int .i64 0, .int .i64 0] 23)
  have O1 := Lib.hid o1
  clear o1
  have hsz : (w.alloc (.cells #[.int .i64 0, .int .i64 0] 23)).heap.size = w.heap.size + 1 := by simp
  have HSZ := Lib.hid hsz
  clear hsz
  have lpn : pn < w.heap.size := (Array.getElem?_eq_some_iff.1 hpn.out).1
  have cpn0 : (w.alloc (.cells #[.int .i64 0, .int .i64 0] 23)).cell? ⟨pn, 0, none⟩ = some (.int .i64 n) := cell_later (w1 := w) hpn.out ((Below.refl _ _).alloc (Nat.le_refl _) _)
  have lpd : pd < w.heap.size := (Array.getElem?_eq_some_iff.1 hpd.out).1
  have cpd0 : (w.alloc (.cells #[.int .i64 0, .int .i64 0] 23)).cell? ⟨pd, 0, none⟩ = some (.int .i64 d) := cell_later (w1 := w) hpd.out ((Below.refl _ _).alloc (Nat.le_refl _) _)
  have lpb : pb < w.heap.size := (Array.getElem?_eq_some_iff.1 hpb.out).1
  have cpb0 : (w.alloc (.cells #[.int .i64 0, .int .i64 0] 23)).cell? ⟨pb, 0, none⟩ = some (.int .i64 x) := cell_later (w1 := w) hpb.out ((Below.refl _ _).alloc (Nat.le_refl _) _)
  have cpb1 : (w.alloc (.cells #[.int .i64 0, .int .i64 0] 23)).cell? ⟨pb, 1, none⟩ = some (.int .i64 y) := cell_later (w1 := w) hpb.out ((Below.refl _ _).alloc (Nat.le_refl _) _)
  have d1 : decide (n < -1000000000000) = false := decide_eq_false (by omega)
  go_enter Tryz.func72, Tryz.ntmps72
  go_wp2
  go_step3
  go_wp2
  go_step3
  go_wp2
  refine wp_loop_rounds 1 ?_
  rw [rounds_succ]
  go_wp2
  try rw [Exit.noGoto_ret]
  refine bodyPost_ret (v := .tuple #[bandV 0 0, .int .i64 2]) (by simp [results, Tryz.results72, go_sem]) rfl ⟨rfl, ?_⟩
  first
    | exact ((Below.refl _ _).alloc (Nat.le_refl _) _)
    | exact (((Below.refl _ _).alloc (Nat.le_refl _) _).setCell (by simp) _).setCell (by simp) _

theorem sclbad3 (w : World) (pn : Nat) (Tn : TypeId) (n : Int) (hpn : Hid (Blk w pn #[.int .i64 n] Tn)) (pd : Nat) (Td : TypeId) (d : Int) (hpd : Hid (Blk w pd #[.int .i64 d] Td)) (pb : Nat) (Tb : TypeId) (x y : Int) (hpb : Hid (Blk w pb #[.int .i64 x, .int .i64 y] Tb)) (h1 : -1000000000000 ≤ n) (h2 : n ≤ 1000000000000) (_h3 : 1 ≤ d) (h0 : 1000000000000 < d) :
    Calls Tryz.prog 72 #[.pointer (some ⟨pn, 0, none⟩), .pointer (some ⟨pd, 0, none⟩), .pointer (some ⟨pb, 0, none⟩)] w (RetB w (.bad 2)) := by
  have hi0 := arr2_0
  have hW : Below w.heap.size w (w.alloc (.cells #[.int .i64 0, .int .i64 0] 23)) := ((Below.refl w.heap.size w).alloc (Nat.le_refl _) _)
  have o1 := heap_last w (.cells #[.int .i64 0, .int .i64 0] 23)
  have O1 := Lib.hid o1
  clear o1
  have hsz : (w.alloc (.cells #[.int .i64 0, .int .i64 0] 23)).heap.size = w.heap.size + 1 := by simp
  have HSZ := Lib.hid hsz
  clear hsz
  have lpn : pn < w.heap.size := (Array.getElem?_eq_some_iff.1 hpn.out).1
  have cpn0 : (w.alloc (.cells #[.int .i64 0, .int .i64 0] 23)).cell? ⟨pn, 0, none⟩ = some (.int .i64 n) := cell_later (w1 := w) hpn.out ((Below.refl _ _).alloc (Nat.le_refl _) _)
  have lpd : pd < w.heap.size := (Array.getElem?_eq_some_iff.1 hpd.out).1
  have cpd0 : (w.alloc (.cells #[.int .i64 0, .int .i64 0] 23)).cell? ⟨pd, 0, none⟩ = some (.int .i64 d) := cell_later (w1 := w) hpd.out ((Below.refl _ _).alloc (Nat.le_refl _) _)
  have lpb : pb < w.heap.size := (Array.getElem?_eq_some_iff.1 hpb.out).1
  have cpb0 : (w.alloc (.cells #[.int .i64 0, .int .i64 0] 23)).cell? ⟨pb, 0, none⟩ = some (.int .i64 x) := cell_later (w1 := w) hpb.out ((Below.refl _ _).alloc (Nat.le_refl _) _)
  have cpb1 : (w.alloc (.cells #[.int .i64 0, .int .i64 0] 23)).cell? ⟨pb, 1, none⟩ = some (.int .i64 y) := cell_later (w1 := w) hpb.out ((Below.refl _ _).alloc (Nat.le_refl _) _)
  have d1 : decide (n < -1000000000000) = false := decide_eq_false (by omega)
  go_enter Tryz.func72, Tryz.ntmps72
  go_wp2
  go_step3
  go_wp2
  go_step3
  go_wp2
  refine wp_loop_rounds 1 ?_
  rw [rounds_succ]
  go_wp2
  try rw [Exit.noGoto_ret]
  refine bodyPost_ret (v := .tuple #[bandV 0 0, .int .i64 2]) (by simp [results, Tryz.results72, go_sem]) rfl ⟨rfl, ?_⟩
  first
    | exact ((Below.refl _ _).alloc (Nat.le_refl _) _)
    | exact (((Below.refl _ _).alloc (Nat.le_refl _) _).setCell (by simp) _).setCell (by simp) _

theorem sclbad_any (w : World) (pn : Nat) (Tn : TypeId) (n : Int) (hpn : Hid (Blk w pn #[.int .i64 n] Tn)) (pd : Nat) (Td : TypeId) (d : Int) (hpd : Hid (Blk w pd #[.int .i64 d] Td)) (pb : Nat) (Tb : TypeId) (x y : Int) (hpb : Hid (Blk w pb #[.int .i64 x, .int .i64 y] Tb)) (hbad : ¬ (-1000000000000 ≤ n ∧ n ≤ 1000000000000 ∧ 1 ≤ d ∧ d ≤ 1000000000000)) :
    Calls Tryz.prog 72 #[.pointer (some ⟨pn, 0, none⟩), .pointer (some ⟨pd, 0, none⟩), .pointer (some ⟨pb, 0, none⟩)] w (RetB w (.bad 2)) := by
  by_cases h1 : n < -1000000000000
  · exact sclbad0 w _ _ _ hpn _ _ _ hpd _ _ _ _ hpb h1
  by_cases h2 : 1000000000000 < n
  · exact sclbad1 w _ _ _ hpn _ _ _ hpd _ _ _ _ hpb h2
  by_cases h3 : d < 1
  · exact sclbad2 w _ _ _ hpn _ _ _ hpd _ _ _ _ hpb (by omega) (by omega) h3
  exact sclbad3 w _ _ _ hpn _ _ _ hpd _ _ _ _ hpb (by omega) (by omega) (by omega) (by omega)

set_option maxHeartbeats 4000000 in
theorem sclok_any (w : World) (pn : Nat) (Tn : TypeId) (n : Int) (hpn : Hid (Blk w pn #[.int .i64 n] Tn)) (pd : Nat) (Td : TypeId) (d : Int) (hpd : Hid (Blk w pd #[.int .i64 d] Td)) (pb : Nat) (Tb : TypeId) (x y : Int) (hpb : Hid (Blk w pb #[.int .i64 x, .int .i64 y] Tb)) (hx0 : -1000000000000000000 ≤ x) (hx1 : x ≤ 1000000000000000000) (hy0 : -1000000000000000000 ≤ y) (hy1 : y ≤ 1000000000000000000) (g1 : -1000000000000 ≤ n) (g2 : n ≤ 1000000000000) (g3 : 1 ≤ d) (g4 : d ≤ 1000000000000) :
    Calls Tryz.prog 72 #[.pointer (some ⟨pn, 0, none⟩), .pointer (some ⟨pd, 0, none⟩), .pointer (some ⟨pb, 0, none⟩)] w (RetB w (rndB ((sclL x y n d).map ovV))) := by
  have hn0 : -1000000000000000000 ≤ n := by omega
  have hn1 : n ≤ 1000000000000000000 := by omega
  have hd0 : -1000000000000000000 ≤ d := by omega
  have hd1 : d ≤ 1000000000000000000 := by omega
  have hd : d ≠ 0 := by omega
  obtain ⟨r, hr⟩ : ∃ r, rndB ((sclL x y n d).map ovV) = r := ⟨_, rfl⟩
  rw [hr]
  obtain ⟨p, ep⟩ : ∃ p, overV x n d = p := ⟨_, rfl⟩
  obtain ⟨q, eq⟩ : ∃ q, overV y n d = q := ⟨_, rfl⟩
  have HR : Hid (rndB [p, q] = r) := by show _ = _; rw [← ep, ← eq, ← hr]; rfl
  clear hr
  have EP := Lib.hid ep
  have EQ := Lib.hid eq
  clear ep eq
  have hle : w.heap.size ≤ w.heap.size := Nat.le_refl _
  have hi0 := arr2_0
  have hi1 := arr2_1
  have hW : Below w.heap.size w (w.alloc (.cells #[.int .i64 0, .int .i64 0] 23)) := ((Below.refl w.heap.size w).alloc (Nat.le_refl _) _)
  have o1 := heap_last w (.cells #[.int .i64 0, .int .i64 0] 23)
  have O1 := Lib.hid o1
  clear o1
  have hsz : (w.alloc (.cells #[.int .i64 0, .int .i64 0] 23)).heap.size = w.heap.size + 1 := by simp
  have HSZ := Lib.hid hsz
  clear hsz
  have HS : Hid (∀ w', Below w.heap.size w w' → w'.cell? ⟨pb, 0, none⟩ = some (.int .i64 x) ∧ w'.cell? ⟨pb, 1, none⟩ = some (.int .i64 y) ∧ w'.cell? ⟨pn, 0, none⟩ = some (.int .i64 n) ∧ w'.cell? ⟨pd, 0, none⟩ = some (.int .i64 d)) := fun w' h => ⟨cell_later hpb.out h, cell_later hpb.out h, cell_later hpn.out h, cell_later hpd.out h⟩
  have lpn : pn < w.heap.size := (Array.getElem?_eq_some_iff.1 hpn.out).1
  have cpn0 : (w.alloc (.cells #[.int .i64 0, .int .i64 0] 23)).cell? ⟨pn, 0, none⟩ = some (.int .i64 n) := cell_later (w1 := w) hpn.out ((Below.refl _ _).alloc (Nat.le_refl _) _)
  have lpd : pd < w.heap.size := (Array.getElem?_eq_some_iff.1 hpd.out).1
  have cpd0 : (w.alloc (.cells #[.int .i64 0, .int .i64 0] 23)).cell? ⟨pd, 0, none⟩ = some (.int .i64 d) := cell_later (w1 := w) hpd.out ((Below.refl _ _).alloc (Nat.le_refl _) _)
  have lpb : pb < w.heap.size := (Array.getElem?_eq_some_iff.1 hpb.out).1
  have cpb0 : (w.alloc (.cells #[.int .i64 0, .int .i64 0] 23)).cell? ⟨pb, 0, none⟩ = some (.int .i64 x) := cell_later (w1 := w) hpb.out ((Below.refl _ _).alloc (Nat.le_refl _) _)
  have cpb1 : (w.alloc (.cells #[.int .i64 0, .int .i64 0] 23)).cell? ⟨pb, 1, none⟩ = some (.int .i64 y) := cell_later (w1 := w) hpb.out ((Below.refl _ _).alloc (Nat.le_refl _) _)
  go_enter Tryz.func72, Tryz.ntmps72
  go_wp2
  go_step3
  go_wp2
  go_step3
  go_wp2
  refine wp_loop_rounds 3 ?_
  rw [rounds_succ]
  go_wp2_with fail
  have hm10 : Below w.heap.size w ((w.alloc (.cells #[.int .i64 0, .int .i64 0] 23))).drew := hW.drew
  have hsz1 := hm10.size
  go_region_held3 (fun w' => w'.cell? ⟨pb, 0, none⟩ = some (.int .i64 x) ∧ w'.cell? ⟨pb, 1, none⟩ = some (.int .i64 y) ∧ w'.cell? ⟨pn, 0, none⟩ = some (.int .i64 n) ∧ w'.cell? ⟨pd, 0, none⟩ = some (.int .i64 d))
    (first | with_reducible exact HS.out _ hm10 | with_reducible exact HS.out _ hm11 | with_reducible exact HS.out _ hm12 | with_reducible exact HS.out _ hm12a | with_reducible exact HS.out _ hm13 | with_reducible exact HS.out _ ((hm13.setCell hle _).setCell hle _))
    (first
      | (go_at_call 59; (with_reducible refine (over_any_b ((w.alloc (.cells #[.int .i64 0, .int .i64 0] 23))).drew x n d hx0 hx1 hn0 hn1 hd0 hd1 hd).mono ?_); rintro e w11 ⟨rfl, hb11⟩; rw [EP.out]; have hm11 := chain hm10 hb11)
      | (go_at_call 59; (with_reducible refine (over_any_b w11 y n d hy0 hy1 hn0 hn1 hd0 hd1 hd).mono ?_); rintro e w12 ⟨rfl, hb12⟩; rw [EQ.out]; have hm12 := chain hm11 hb12; have hm12a : Below w.heap.size w (w12.alloc (.cells #[.int .i64 p.1, .int .i64 p.2, .int .i64 q.1, .int .i64 q.2] 87)) := hm12.alloc hm12.size _)
      | (go_at_call 63; (refine (round2_any _ _ 87 p q (Lib.hid (heap_last _ _))).mono ?_); rintro e w13 ⟨rfl, hb13⟩; rw [HR.out]; have hm13 := chain hm12a hb13; have hbW := chain (chain (chain (undrewS hb11) hb12) ((Below.refl _ _).alloc (Nat.le_refl _) (.cells #[.int .i64 p.1, .int .i64 p.2, .int .i64 q.1, .int .i64 q.2] 87))) hb13; have hsz13 := hbW.size; simp at hsz13; have y3 := cell_later (j := 0) O1.out hbW; have y4 := cell_later (j := 1) O1.out hbW; have z1 := frozen_later O1.out hbW 0; have z2 := frozen_later O1.out hbW 1; simp at y3 y4))
  have q3 := World.cell?_setCell_other (w13.setCell ⟨w.heap.size, 0, none⟩ (.int .i64 r.lo)) ⟨w.heap.size, 1, none⟩ ⟨w.heap.size, 0, none⟩ (.int .i64 r.hi) (by simp)
  have q3 := q3.trans (World.cell?_setCell_same _ _ _ y3)
  have q4 := World.cell?_setCell_same (w13.setCell ⟨w.heap.size, 0, none⟩ (.int .i64 r.lo)) ⟨w.heap.size, 1, none⟩ (.int .i64 r.hi) ((World.cell?_setCell_other _ _ _ _ (by simp)).trans y4)
  have z3 : ((w13.setCell ⟨w.heap.size, 0, none⟩ (.int .i64 r.lo)).setCell ⟨w.heap.size, 1, none⟩ (.int .i64 r.hi)).frozen? ⟨w.heap.size, 0, none⟩ = false := by rw [World.frozen?_setCell, World.frozen?_setCell]; exact z1
  have z4 : ((w13.setCell ⟨w.heap.size, 0, none⟩ (.int .i64 r.lo)).setCell ⟨w.heap.size, 1, none⟩ (.int .i64 r.hi)).frozen? ⟨w.heap.size, 1, none⟩ = false := by rw [World.frozen?_setCell, World.frozen?_setCell]; exact z2
  have hmW := (hm13.setCell (p := ⟨w.heap.size, 0, none⟩) hle (.int .i64 r.lo)).setCell (p := ⟨w.heap.size, 1, none⟩) hle (.int .i64 r.hi)
  obtain ⟨W1, hW1e⟩ : ∃ W1, (w13.setCell ⟨w.heap.size, 0, none⟩ (.int .i64 r.lo)).setCell ⟨w.heap.size, 1, none⟩ (.int .i64 r.hi) = W1 := ⟨_, rfl⟩
  rw [hW1e] at q3 q4 z3 z4 hmW ⊢
  clear hW1e y3 y4 z1 z2
  have hszW : w.heap.size < W1.heap.size := World.block_lt_of_cell? _ _ q3
  have cW := HS.out _ hmW
  obtain ⟨cw1, cw2, cw3, cw4⟩ := cW
  go_wp2_with fail
  rw [rounds_succ]
  go_wp2_with fail
  have hm20 : Below w.heap.size w (W1).drew := hmW.drew
  have hsz2 := hm20.size
  go_region_held3 (fun w' => w'.cell? ⟨pb, 0, none⟩ = some (.int .i64 x) ∧ w'.cell? ⟨pb, 1, none⟩ = some (.int .i64 y) ∧ w'.cell? ⟨pn, 0, none⟩ = some (.int .i64 n) ∧ w'.cell? ⟨pd, 0, none⟩ = some (.int .i64 d))
    (first | with_reducible exact HS.out _ hm20 | with_reducible exact HS.out _ hm21 | with_reducible exact HS.out _ hm22 | with_reducible exact HS.out _ hm22a | with_reducible exact HS.out _ hm23 | with_reducible exact HS.out _ ((hm23.setCell hle _).setCell hle _))
    (first
      | (go_at_call 59; (with_reducible refine (over_any_b (W1).drew x n d hx0 hx1 hn0 hn1 hd0 hd1 hd).mono ?_); rintro e w21 ⟨rfl, hb21⟩; rw [EP.out]; have hm21 := chain hm20 hb21)
      | (go_at_call 59; (with_reducible refine (over_any_b w21 y n d hy0 hy1 hn0 hn1 hd0 hd1 hd).mono ?_); rintro e w22 ⟨rfl, hb22⟩; rw [EQ.out]; have hm22 := chain hm21 hb22; have hm22a : Below w.heap.size w (w22.alloc (.cells #[.int .i64 p.1, .int .i64 p.2, .int .i64 q.1, .int .i64 q.2] 87)) := hm22.alloc hm22.size _)
      | (go_at_call 63; (refine (round2_any _ _ 87 p q (Lib.hid (heap_last _ _))).mono ?_); rintro e w23 ⟨rfl, hb23⟩; rw [HR.out]; have hm23 := chain hm22a hb23; have hbW2 := chain (chain (chain (undrewS hb21) hb22) ((Below.refl _ _).alloc (Nat.le_refl _) (.cells #[.int .i64 p.1, .int .i64 p.2, .int .i64 q.1, .int .i64 q.2] 87))) hb23; have hsz23 := hbW2.size; have y5 := (hbW2.cell (p := ⟨w.heap.size, 0, none⟩) hszW).trans q3; have y6 := (hbW2.cell (p := ⟨w.heap.size, 1, none⟩) hszW).trans q4; have z5 := (hbW2.frozen (p := ⟨w.heap.size, 0, none⟩) hszW).trans z3; have z6 := (hbW2.frozen (p := ⟨w.heap.size, 1, none⟩) hszW).trans z4))
  have q5 := World.cell?_setCell_other (w23.setCell ⟨w.heap.size, 0, none⟩ (.int .i64 r.lo)) ⟨w.heap.size, 1, none⟩ ⟨w.heap.size, 0, none⟩ (.int .i64 r.hi) (by simp)
  have q5 := q5.trans (World.cell?_setCell_same _ _ _ y5)
  have q6 := World.cell?_setCell_same (w23.setCell ⟨w.heap.size, 0, none⟩ (.int .i64 r.lo)) ⟨w.heap.size, 1, none⟩ (.int .i64 r.hi) ((World.cell?_setCell_other _ _ _ _ (by simp)).trans y6)
  have z7 : ((w23.setCell ⟨w.heap.size, 0, none⟩ (.int .i64 r.lo)).setCell ⟨w.heap.size, 1, none⟩ (.int .i64 r.hi)).frozen? ⟨w.heap.size, 0, none⟩ = false := by rw [World.frozen?_setCell, World.frozen?_setCell]; exact z5
  have z8 : ((w23.setCell ⟨w.heap.size, 0, none⟩ (.int .i64 r.lo)).setCell ⟨w.heap.size, 1, none⟩ (.int .i64 r.hi)).frozen? ⟨w.heap.size, 1, none⟩ = false := by rw [World.frozen?_setCell, World.frozen?_setCell]; exact z6
  have hmV := (hm23.setCell (p := ⟨w.heap.size, 0, none⟩) hle (.int .i64 r.lo)).setCell (p := ⟨w.heap.size, 1, none⟩) hle (.int .i64 r.hi)
  obtain ⟨W2, hW2e⟩ : ∃ W2, (w23.setCell ⟨w.heap.size, 0, none⟩ (.int .i64 r.lo)).setCell ⟨w.heap.size, 1, none⟩ (.int .i64 r.hi) = W2 := ⟨_, rfl⟩
  rw [hW2e] at q5 q6 z7 z8 hmV ⊢
  clear hW2e y5 y6 z5 z6
  have hszV : w.heap.size < W2.heap.size := World.block_lt_of_cell? _ _ q5
  have cV := HS.out _ hmV
  obtain ⟨cv1, cv2, cv3, cv4⟩ := cV
  go_wp2_with fail
  rw [rounds_succ]
  go_wp2_with fail
  try rw [Exit.noGoto_ret]
  refine bodyPost_ret (v := .tuple #[bandV r.lo r.hi, .int .i64 r.e]) (by simp [results, Tryz.results72, go_sem, q5, q6]) rfl ⟨rfl, (hmV.setCell hle _).setCell hle _⟩

theorem sclclo_any (w : World) (pn : Nat) (Tn : TypeId) (n : Int) (hpn : Hid (Blk w pn #[.int .i64 n] Tn)) (pd : Nat) (Td : TypeId) (d : Int) (hpd : Hid (Blk w pd #[.int .i64 d] Td)) (pb : Nat) (Tb : TypeId) (x y : Int) (hpb : Hid (Blk w pb #[.int .i64 x, .int .i64 y] Tb)) (hx : -1000000000000000000 ≤ x) (hxy : x ≤ y) (hy : y ≤ 1000000000000000000) :
    Calls Tryz.prog 72 #[.pointer (some ⟨pn, 0, none⟩), .pointer (some ⟨pd, 0, none⟩), .pointer (some ⟨pb, 0, none⟩)] w (RetB w (if -1000000000000 ≤ n ∧ n ≤ 1000000000000 ∧ 1 ≤ d ∧ d ≤ 1000000000000 then rndB ((sclL x y n d).map ovV) else .bad 2)) := by
  by_cases h : -1000000000000 ≤ n ∧ n ≤ 1000000000000 ∧ 1 ≤ d ∧ d ≤ 1000000000000
  · rw [if_pos h]
    exact sclok_any w _ _ _ hpn _ _ _ hpd _ _ _ _ hpb hx (by omega) (by omega) hy h.1 h.2.1 h.2.2.1 h.2.2.2
  · rw [if_neg h]
    exact sclbad_any w _ _ _ hpn _ _ _ hpd _ _ _ _ hpb h

theorem scl_b0 (w : World) (x y : Int) (n d : Int) :
    Calls Tryz.prog 22 #[bandV x y, .int .i64 n, .int .i64 d] w (RetB w (oneB x y (if -1000000000000 ≤ n ∧ n ≤ 1000000000000 ∧ 1 ≤ d ∧ d ≤ 1000000000000 then rndB ((sclL x y n d).map ovV) else .bad 2))) := by
  have hmf : ∀ (fn : Fn) (first cap : Array Value) (w : World), (Instr.makeFunc fn first cap).run Tryz.prog w = .ok (.func fn first cap) w := fun _ _ _ _ => rfl
  obtain ⟨r, hr⟩ : ∃ r, oneB x y (if -1000000000000 ≤ n ∧ n ≤ 1000000000000 ∧ 1 ≤ d ∧ d ≤ 1000000000000 then rndB ((sclL x y n d).map ovV) else .bad 2) = r := ⟨_, rfl⟩
  rw [hr]
  have HR := Lib.hid hr
  clear hr
  have hW : Below w.heap.size w (((((w.alloc (.cells #[.int .i64 x, .int .i64 y] 23)).alloc (.cells #[.int .i64 n] 3)).alloc (.cells #[.int .i64 d] 3)).alloc (.cells #[.int .i64 0, .int .i64 0] 23)).alloc (.cells #[.int .i64 x, .int .i64 y] 23)) := ((((((Below.refl w.heap.size w).alloc (Nat.le_refl _) _).alloc (by simp <;> omega) _).alloc (by simp <;> omega) _).alloc (by simp <;> omega) _).alloc (by simp <;> omega) _)
  have o1 := heap_more (heap_more (heap_more (heap_more (heap_last w (.cells #[.int .i64 x, .int .i64 y] 23)) (.cells #[.int .i64 n] 3)) (.cells #[.int .i64 d] 3)) (.cells #[.int .i64 0, .int .i64 0] 23)) (.cells #[.int .i64 x, .int .i64 y] 23)
  have O1 := Lib.hid o1
  clear o1
  have o2 := heap_more (heap_more (heap_more (heap_last (w.alloc (.cells #[.int .i64 x, .int .i64 y] 23)) (.cells #[.int .i64 n] 3)) (.cells #[.int .i64 d] 3)) (.cells #[.int .i64 0, .int .i64 0] 23)) (.cells #[.int .i64 x, .int .i64 y] 23)
  rw [show (w.alloc (.cells #[.int .i64 x, .int .i64 y] 23)).heap.size = w.heap.size + 1 by simp] at o2
  have O2 := Lib.hid o2
  clear o2
  have o3 := heap_more (heap_more (heap_last ((w.alloc (.cells #[.int .i64 x, .int .i64 y] 23)).alloc (.cells #[.int .i64 n] 3)) (.cells #[.int .i64 d] 3)) (.cells #[.int .i64 0, .int .i64 0] 23)) (.cells #[.int .i64 x, .int .i64 y] 23)
  rw [show ((w.alloc (.cells #[.int .i64 x, .int .i64 y] 23)).alloc (.cells #[.int .i64 n] 3)).heap.size = w.heap.size + 1 + 1 by simp] at o3
  have O3 := Lib.hid o3
  clear o3
  have o4 := heap_more (heap_last (((w.alloc (.cells #[.int .i64 x, .int .i64 y] 23)).alloc (.cells #[.int .i64 n] 3)).alloc (.cells #[.int .i64 d] 3)) (.cells #[.int .i64 0, .int .i64 0] 23)) (.cells #[.int .i64 x, .int .i64 y] 23)
  rw [show (((w.alloc (.cells #[.int .i64 x, .int .i64 y] 23)).alloc (.cells #[.int .i64 n] 3)).alloc (.cells #[.int .i64 d] 3)).heap.size = w.heap.size + 1 + 1 + 1 by simp] at o4
  have O4 := Lib.hid o4
  clear o4
  have o5 := heap_last ((((w.alloc (.cells #[.int .i64 x, .int .i64 y] 23)).alloc (.cells #[.int .i64 n] 3)).alloc (.cells #[.int .i64 d] 3)).alloc (.cells #[.int .i64 0, .int .i64 0] 23)) (.cells #[.int .i64 x, .int .i64 y] 23)
  rw [show ((((w.alloc (.cells #[.int .i64 x, .int .i64 y] 23)).alloc (.cells #[.int .i64 n] 3)).alloc (.cells #[.int .i64 d] 3)).alloc (.cells #[.int .i64 0, .int .i64 0] 23)).heap.size = w.heap.size + 1 + 1 + 1 + 1 by simp] at o5
  have O5 := Lib.hid o5
  clear o5
  have hsz : (((((w.alloc (.cells #[.int .i64 x, .int .i64 y] 23)).alloc (.cells #[.int .i64 n] 3)).alloc (.cells #[.int .i64 d] 3)).alloc (.cells #[.int .i64 0, .int .i64 0] 23)).alloc (.cells #[.int .i64 x, .int .i64 y] 23)).heap.size = w.heap.size + 1 + 1 + 1 + 1 + 1 := by simp
  have HSZ := Lib.hid hsz
  clear hsz
  go_enter Tryz.func22, Tryz.ntmps22
  go_wp2_with fail
  refine (checked1_any 72 (fun _ _ => by kernel_rfl) #[.pointer (some ⟨w.heap.size + 1, 0, none⟩), .pointer (some ⟨w.heap.size + 1 + 1, 0, none⟩), .pointer (some ⟨w.heap.size, 0, none⟩)] _ (w.heap.size + 1 + 1 + 1 + 1) x y 23 (Lib.hid O5.out) (if -1000000000000 ≤ n ∧ n ≤ 1000000000000 ∧ 1 ≤ d ∧ d ≤ 1000000000000 then rndB ((sclL x y n d).map ovV) else .bad 2) (fun hok w' hb' => sclclo_any w' _ _ _ (Lib.hid (blk_later O2.out hb')) _ _ _ (Lib.hid (blk_later O3.out hb')) _ _ _ _ (Lib.hid (blk_later O1.out hb')) ((ok_iff x y).1 hok).1 ((ok_iff x y).1 hok).2.1 ((ok_iff x y).1 hok).2.2)).mono ?_
  rintro e w1 ⟨rfl, hb1⟩
  rw [HR.out]
  have hW1 := chain hW hb1
  have hs := hW1.size
  have y3 := cell_later (j := 0) O4.out hb1
  have y4 := cell_later (j := 1) O4.out hb1
  have g1 := frozen_later O4.out hb1 0
  have g2 := frozen_later O4.out hb1 1
  simp at y3 y4
  go_wp2
  refine bodyPost_ret (v := .tuple #[bandV r.lo r.hi, .int .i64 r.e]) (by simp [results, Tryz.results22, go_sem, y3, y4]) rfl ⟨rfl, (hW1.setCell (by simp <;> omega) _).setCell (by simp <;> omega) _⟩

theorem scl_c (w : World) (x y n d : Int) : Calls Tryz.prog 22 #[bandV x y, .int .i64 n, .int .i64 d] w (RetB w (sclB x y n d)) := scl_b0 w x y n d

end Go.Proofs.YtkajibniibjblaaGreatDoor
