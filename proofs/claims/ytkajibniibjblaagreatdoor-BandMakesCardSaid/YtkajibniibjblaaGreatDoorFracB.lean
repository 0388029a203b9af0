/-
  frac: Make, Of (denominators above 0), all, with, Add, Sub, Mul, Div at valid fractions.
  frac: Add, Sub, Mul, Div at valid fractions; Make, Of with denominators above 0.
-/
import Derived.Test.YtkajibniibjblaaGreatDoorFracA
namespace Go.Proofs.YtkajibniibjblaaGreatDoor
open Go.RowKit
set_option maxRecDepth 100000

theorem fits_le {z : Int} {k : Nat} (h : z.natAbs < 10 ^ k) (hk : 0 < k) (hk2 : k ≤ 600) : fits z = true := by
  rw [fits, decide_eq_true_iff]; exact Nat.le_trans (nDigits_lt h hk) hk2
theorem fitsQ_mk {n : Int} {d k : Nat} (hk : 0 < k) (hk2 : k ≤ 600) (hd : 0 < d) (hn : n.natAbs < 10 ^ k) (hd' : d < 10 ^ k) : fitsQ (mkRat n d) = true := by
  obtain ⟨h1, h2, _⟩ := norm_num n d hd
  rw [fitsQ, fits_le (k := k) _ hk hk2, fits_le (k := k) _ hk hk2]; rfl
  · rw [Int.natAbs_natCast, h2]; exact Nat.lt_of_le_of_lt (Nat.div_le_self _ _) hd'
  · rw [h1]; exact Nat.lt_of_le_of_lt (Nat.div_le_self _ _) hn
theorem vw_toldS {z : Int} (h : fits z = true) : VW (toldS z) z := ⟨h, by rw [toldS, if_pos h]⟩
theorem told_vq {q : Rat} (h : fitsQ q = true) : toldQ q = .agg #[.string (toldS q.num), .string (toldS (q.den : Int))] ∧ toldQE q = 0 ∧ VQ (toldS q.num) (toldS (q.den : Int)) q := by
  have h' := h
  rw [fitsQ, Bool.and_eq_true] at h'
  exact ⟨by rw [toldQ, if_pos h], by rw [toldQE, if_pos h], vw_toldS h'.1, vw_toldS h'.2⟩
/-- A call returned a fraction, or that it is too long. -/
def RetF (w : World) (q : Rat) : Ending → World → Prop := fun e w' => e = .returned (.tuple #[toldQ q, .int .i64 (toldQE q)]) ∧ Below w.heap.size w w'

set_option maxHeartbeats 2000000 in
theorem fall2_any (w : World) (henv : Env w) (b : Nat) (N D N' D' : ByteArray) (q r : Rat) (T : TypeId) (hb : Hid (Blk w b #[.string N, .string D, .string N', .string D'] T)) (h : VQ N D q) (h' : VQ N' D' r) :
    Calls Tryz.prog 108 #[.slice (some ⟨b, 0, none⟩) 2 2] w fun e w' => e = .returned (.int .i64 0) ∧ Below w.heap.size w w' := by
  have hlt : b < w.heap.size := (Array.getElem?_eq_some_iff.1 hb.out).1
  have hW : Below w.heap.size w (w.alloc (.cells #[.string N, .string D] 51)) := ((Below.refl w.heap.size w).alloc (Nat.le_refl _) _)
  have o1 := heap_last w (.cells #[.string N, .string D] 51)
  have O1 := Lib.hid o1
  clear o1
  have hsz : (w.alloc (.cells #[.string N, .string D] 51)).heap.size = w.heap.size + 1 := by simp
  have HSZ := Lib.hid hsz
  clear hsz
  have z0 : w.cell? ⟨b, 0, none⟩ = some (.string N) := cell_later (w1 := w) hb.out (Below.refl _ _)
  have z1 : w.cell? ⟨b, 1, none⟩ = some (.string D) := cell_later (w1 := w) hb.out (Below.refl _ _)
  have HE := Lib.hid (henv.below hW)
  clear henv
  go_enter Tryz.func108, Tryz.ntmps108
  go_wp2
  refine wp_loop_rounds 3 ?_
  rw [rounds_succ]
  go_wp2_with fail
  refine (fcheck_ok _ HE.out N D q h).mono ?_
  rintro e w1 ⟨rfl, hb1⟩
  have hW1 := chain hW hb1
  have u2 := cell_later (j := 2) hb.out hW1
  have u3 := cell_later (j := 3) hb.out hW1
  simp at u2 u3
  go_wp2
  rw [rounds_succ]
  have hWa : Below w1.heap.size w1 (w1.alloc (.cells #[.string N', .string D'] 51)) := (Below.refl _ _).alloc (Nat.le_refl _) _
  go_wp2_with fail
  refine (fcheck_ok _ ((HE.out.below hb1).below hWa) N' D' r h').mono ?_
  rintro e w2 ⟨rfl, hb2⟩
  go_wp2
  rw [rounds_succ]
  go_wp2
  go_ret
  exact ⟨rfl, chain hW1 (chain hWa hb2)⟩

set_option maxHeartbeats 4000000 in
theorem with_plus (w : World) (henv : Env w) (N D N' D' : ByteArray) (q r : Rat) (h : VQ N D q) (h' : VQ N' D' r) :
    Calls Tryz.prog 104 #[.agg #[.string N, .string D], .agg #[.string N', .string D'], .func (.func 105) #[] #[], .func (.func 106) #[] #[]] w (RetF w (q + r)) := by
  have hTq : ∃ TN TD, Hid (toldQ (q + r) = .agg #[.string TN, .string TD]) := by unfold toldQ; split <;> exact ⟨_, _, rfl⟩
  obtain ⟨TN, TD, hTq⟩ := hTq
  obtain ⟨s, hs⟩ : ∃ s, q + r = s := ⟨_, rfl⟩
  have HS := Lib.hid hs
  rw [hs] at hTq ⊢
  clear hs
  have hW : Below w.heap.size w ((((w.alloc (.cells #[.string N, .string D] 51)).alloc (.cells #[.string N', .string D'] 51)).alloc (.cells #[.string ⟨#[]⟩, .string ⟨#[]⟩] 51)).alloc (.cells #[.string N, .string D, .string N', .string D'] 51)) := (((((Below.refl w.heap.size w).alloc (Nat.le_refl _) _).alloc (by simp <;> omega) _).alloc (by simp <;> omega) _).alloc (by simp <;> omega) _)
  have o1 := heap_more (heap_more (heap_more (heap_last w (.cells #[.string N, .string D] 51)) (.cells #[.string N', .string D'] 51)) (.cells #[.string ⟨#[]⟩, .string ⟨#[]⟩] 51)) (.cells #[.string N, .string D, .string N', .string D'] 51)
  have O1 := Lib.hid o1
  clear o1
  have o2 := heap_more (heap_more (heap_last (w.alloc (.cells #[.string N, .string D] 51)) (.cells #[.string N', .string D'] 51)) (.cells #[.string ⟨#[]⟩, .string ⟨#[]⟩] 51)) (.cells #[.string N, .string D, .string N', .string D'] 51)
  rw [show (w.alloc (.cells #[.string N, .string D] 51)).heap.size = w.heap.size + 1 by simp] at o2
  have O2 := Lib.hid o2
  clear o2
  have o3 := heap_more (heap_last ((w.alloc (.cells #[.string N, .string D] 51)).alloc (.cells #[.string N', .string D'] 51)) (.cells #[.string ⟨#[]⟩, .string ⟨#[]⟩] 51)) (.cells #[.string N, .string D, .string N', .string D'] 51)
  rw [show ((w.alloc (.cells #[.string N, .string D] 51)).alloc (.cells #[.string N', .string D'] 51)).heap.size = w.heap.size + 1 + 1 by simp] at o3
  have O3 := Lib.hid o3
  clear o3
  have o4 := heap_last (((w.alloc (.cells #[.string N, .string D] 51)).alloc (.cells #[.string N', .string D'] 51)).alloc (.cells #[.string ⟨#[]⟩, .string ⟨#[]⟩] 51)) (.cells #[.string N, .string D, .string N', .string D'] 51)
  rw [show (((w.alloc (.cells #[.string N, .string D] 51)).alloc (.cells #[.string N', .string D'] 51)).alloc (.cells #[.string ⟨#[]⟩, .string ⟨#[]⟩] 51)).heap.size = w.heap.size + 1 + 1 + 1 by simp] at o4
  have O4 := Lib.hid o4
  clear o4
  have hsz : ((((w.alloc (.cells #[.string N, .string D] 51)).alloc (.cells #[.string N', .string D'] 51)).alloc (.cells #[.string ⟨#[]⟩, .string ⟨#[]⟩] 51)).alloc (.cells #[.string N, .string D, .string N', .string D'] 51)).heap.size = w.heap.size + 1 + 1 + 1 + 1 := by simp
  have HSZ := Lib.hid hsz
  clear hsz
  have HE := Lib.hid (henv.below hW)
  clear henv
  go_enter Tryz.func104, Tryz.ntmps104
  go_wp2_with fail
  refine (fall2_any _ HE.out (w.heap.size + 1 + 1 + 1) N D N' D' q r 51 (Lib.hid O4.out) h h').mono ?_
  rintro e w1 ⟨rfl, hb1⟩
  have hLE : w.heap.size + 1 + 1 ≤ ((((w.alloc (.cells #[.string N, .string D] 51)).alloc (.cells #[.string N', .string D'] 51)).alloc (.cells #[.string ⟨#[]⟩, .string ⟨#[]⟩] 51)).alloc (.cells #[.string N, .string D, .string N', .string D'] 51)).heap.size := by simp <;> omega
  have HC : Hid (∀ w', Below (w.heap.size + 1 + 1) ((((w.alloc (.cells #[.string N, .string D] 51)).alloc (.cells #[.string N', .string D'] 51)).alloc (.cells #[.string ⟨#[]⟩, .string ⟨#[]⟩] 51)).alloc (.cells #[.string N, .string D, .string N', .string D'] 51)) w' → w'.cell? ⟨w.heap.size, 0, none⟩ = some (.string N) ∧ w'.cell? ⟨w.heap.size, 1, none⟩ = some (.string D) ∧ w'.cell? ⟨w.heap.size + 1, 0, none⟩ = some (.string N') ∧ w'.cell? ⟨w.heap.size + 1, 1, none⟩ = some (.string D')) := fun w' h => ⟨cell_at O1.out (by omega) h, cell_at O1.out (by omega) h, cell_at O2.out (by omega) h, cell_at O2.out (by omega) h⟩
  have hd0 : Below ((((w.alloc (.cells #[.string N, .string D] 51)).alloc (.cells #[.string N', .string D'] 51)).alloc (.cells #[.string ⟨#[]⟩, .string ⟨#[]⟩] 51)).alloc (.cells #[.string N, .string D, .string N', .string D'] 51)).heap.size ((((w.alloc (.cells #[.string N, .string D] 51)).alloc (.cells #[.string N', .string D'] 51)).alloc (.cells #[.string ⟨#[]⟩, .string ⟨#[]⟩] 51)).alloc (.cells #[.string N, .string D, .string N', .string D'] 51)) w1.drew := hb1.drew
  go_wp2_with fail
  go_region_held3 (fun w' => w'.cell? ⟨w.heap.size, 0, none⟩ = some (.string N) ∧ w'.cell? ⟨w.heap.size, 1, none⟩ = some (.string D) ∧ w'.cell? ⟨w.heap.size + 1, 0, none⟩ = some (.string N') ∧ w'.cell? ⟨w.heap.size + 1, 1, none⟩ = some (.string D'))
    ((refine HC.out _ ?_; repeat (first | with_reducible exact Below.mono hd0 hLE | with_reducible exact Below.mono hd1 hLE | with_reducible exact Below.mono hd2 hLE | with_reducible exact Below.mono hd3 hLE | with_reducible exact Below.mono hd4 hLE | (with_reducible refine Below.setCell ?_ (by first | omega | (simp <;> omega)) _))))
    (first
      | (go_at_call 85; (fail_if_success (have hq := hA1)); (refine (readq_any _ N D q h).mono ?_); rintro e w2 ⟨b1, A1, l1, c1, B1, m1, d1, rfl, hs1, hA1, hB1, hb2, _, _⟩; unfold rv; have hd1 := chain hd0 hb2)
      | (go_at_call 85; (refine (readq_any _ N' D' r h').mono ?_); rintro e w3 ⟨b2, A2, l2, c2, B2, m2, d2, rfl, hs2, hA2, hB2, hb3, _, _⟩; unfold rv; have hd2 := chain hd1 hb3)
      | (go_at_call 105; (refine (plusq_any (La := 40) (Lb := 40) _ _ _ _ _ _ _ _ q hs1 (hA1.below hb3) (hB1.below hb3) _ _ _ _ _ _ _ r hs2 hA2 hB2 (by decide)).mono ?_); rintro e w4 ⟨b3, A3, l3, c3, B3, m3, d3, rfl, hs3, hA3, hB3, hb4, _, _⟩; unfold rv; rw [HS.out] at hs3 hA3 hB3; have hd3 := chain hd2 hb4)
      | (go_at_call 106; (refine (toldq_any _ (HE.out.below hd3) _ _ _ _ _ _ _ s hs3 hA3 hB3 (by decide)).mono ?_); rintro e w5 ⟨rfl, hb5⟩; rw [hTq.out]; have hd4 := chain hd3 hb5; have y1 := cell_later (j := 0) O3.out hd4; have y2 := cell_later (j := 1) O3.out hd4; have g1 := frozen_later O3.out hd4 0; have g2 := frozen_later O3.out hd4 1; simp at y1 y2))
  have hW1 := chain hW hd4
  have hbs := hW1.size
  go_wp2
  refine bodyPost_ret (v := .tuple #[.agg #[.string TN, .string TD], .int .i64 (toldQE s)]) (by simp [results, Tryz.results104, go_sem, y1, y2]) rfl ⟨by rw [hTq.out], (hW1.setCell (by simp <;> omega) _).setCell (by simp <;> omega) _⟩

set_option maxHeartbeats 4000000 in
theorem with_minus (w : World) (henv : Env w) (N D N' D' : ByteArray) (q r : Rat) (h : VQ N D q) (h' : VQ N' D' r) :
    Calls Tryz.prog 104 #[.agg #[.string N, .string D], .agg #[.string N', .string D'], .func (.func 107) #[] #[], .func (.func 106) #[] #[]] w (RetF w (q - r)) := by
  have hTq : ∃ TN TD, Hid (toldQ (q - r) = .agg #[.string TN, .string TD]) := by unfold toldQ; split <;> exact ⟨_, _, rfl⟩
  obtain ⟨TN, TD, hTq⟩ := hTq
  obtain ⟨s, hs⟩ : ∃ s, q - r = s := ⟨_, rfl⟩
  have HS := Lib.hid hs
  rw [hs] at hTq ⊢
  clear hs
  have hW : Below w.heap.size w ((((w.alloc (.cells #[.string N, .string D] 51)).alloc (.cells #[.string N', .string D'] 51)).alloc (.cells #[.string ⟨#[]⟩, .string ⟨#[]⟩] 51)).alloc (.cells #[.string N, .string D, .string N', .string D'] 51)) := (((((Below.refl w.heap.size w).alloc (Nat.le_refl _) _).alloc (by simp <;> omega) _).alloc (by simp <;> omega) _).alloc (by simp <;> omega) _)
  have o1 := heap_more (heap_more (heap_more (heap_last w (.cells #[.string N, .string D] 51)) (.cells #[.string N', .string D'] 51)) (.cells #[.string ⟨#[]⟩, .string ⟨#[]⟩] 51)) (.cells #[.string N, .string D, .string N', .string D'] 51)
  have O1 := Lib.hid o1
  clear o1
  have o2 := heap_more (heap_more (heap_last (w.alloc (.cells #[.string N, .string D] 51)) (.cells #[.string N', .string D'] 51)) (.cells #[.string ⟨#[]⟩, .string ⟨#[]⟩] 51)) (.cells #[.string N, .string D, .string N', .string D'] 51)
  rw [show (w.alloc (.cells #[.string N, .string D] 51)).heap.size = w.heap.size + 1 by simp] at o2
  have O2 := Lib.hid o2
  clear o2
  have o3 := heap_more (heap_last ((w.alloc (.cells #[.string N, .string D] 51)).alloc (.cells #[.string N', .string D'] 51)) (.cells #[.string ⟨#[]⟩, .string ⟨#[]⟩] 51)) (.cells #[.string N, .string D, .string N', .string D'] 51)
  rw [show ((w.alloc (.cells #[.string N, .string D] 51)).alloc (.cells #[.string N', .string D'] 51)).heap.size = w.heap.size + 1 + 1 by simp] at o3
  have O3 := Lib.hid o3
  clear o3
  have o4 := heap_last (((w.alloc (.cells #[.string N, .string D] 51)).alloc (.cells #[.string N', .string D'] 51)).alloc (.cells #[.string ⟨#[]⟩, .string ⟨#[]⟩] 51)) (.cells #[.string N, .string D, .string N', .string D'] 51)
  rw [show (((w.alloc (.cells #[.string N, .string D] 51)).alloc (.cells #[.string N', .string D'] 51)).alloc (.cells #[.string ⟨#[]⟩, .string ⟨#[]⟩] 51)).heap.size = w.heap.size + 1 + 1 + 1 by simp] at o4
  have O4 := Lib.hid o4
  clear o4
  have hsz : ((((w.alloc (.cells #[.string N, .string D] 51)).alloc (.cells #[.string N', .string D'] 51)).alloc (.cells #[.string ⟨#[]⟩, .string ⟨#[]⟩] 51)).alloc (.cells #[.string N, .string D, .string N', .string D'] 51)).heap.size = w.heap.size + 1 + 1 + 1 + 1 := by simp
  have HSZ := Lib.hid hsz
  clear hsz
  have HE := Lib.hid (henv.below hW)
  clear henv
  go_enter Tryz.func104, Tryz.ntmps104
  go_wp2_with fail
  refine (fall2_any _ HE.out (w.heap.size + 1 + 1 + 1) N D N' D' q r 51 (Lib.hid O4.out) h h').mono ?_
  rintro e w1 ⟨rfl, hb1⟩
  have hLE : w.heap.size + 1 + 1 ≤ ((((w.alloc (.cells #[.string N, .string D] 51)).alloc (.cells #[.string N', .string D'] 51)).alloc (.cells #[.string ⟨#[]⟩, .string ⟨#[]⟩] 51)).alloc (.cells #[.string N, .string D, .string N', .string D'] 51)).heap.size := by simp <;> omega
  have HC : Hid (∀ w', Below (w.heap.size + 1 + 1) ((((w.alloc (.cells #[.string N, .string D] 51)).alloc (.cells #[.string N', .string D'] 51)).alloc (.cells #[.string ⟨#[]⟩, .string ⟨#[]⟩] 51)).alloc (.cells #[.string N, .string D, .string N', .string D'] 51)) w' → w'.cell? ⟨w.heap.size, 0, none⟩ = some (.string N) ∧ w'.cell? ⟨w.heap.size, 1, none⟩ = some (.string D) ∧ w'.cell? ⟨w.heap.size + 1, 0, none⟩ = some (.string N') ∧ w'.cell? ⟨w.heap.size + 1, 1, none⟩ = some (.string D')) := fun w' h => ⟨cell_at O1.out (by omega) h, cell_at O1.out (by omega) h, cell_at O2.out (by omega) h, cell_at O2.out (by omega) h⟩
  have hd0 : Below ((((w.alloc (.cells #[.string N, .string D] 51)).alloc (.cells #[.string N', .string D'] 51)).alloc (.cells #[.string ⟨#[]⟩, .string ⟨#[]⟩] 51)).alloc (.cells #[.string N, .string D, .string N', .string D'] 51)).heap.size ((((w.alloc (.cells #[.string N, .string D] 51)).alloc (.cells #[.string N', .string D'] 51)).alloc (.cells #[.string ⟨#[]⟩, .string ⟨#[]⟩] 51)).alloc (.cells #[.string N, .string D, .string N', .string D'] 51)) w1.drew := hb1.drew
  go_wp2_with fail
  go_region_held3 (fun w' => w'.cell? ⟨w.heap.size, 0, none⟩ = some (.string N) ∧ w'.cell? ⟨w.heap.size, 1, none⟩ = some (.string D) ∧ w'.cell? ⟨w.heap.size + 1, 0, none⟩ = some (.string N') ∧ w'.cell? ⟨w.heap.size + 1, 1, none⟩ = some (.string D'))
    ((refine HC.out _ ?_; repeat (first | with_reducible exact Below.mono hd0 hLE | with_reducible exact Below.mono hd1 hLE | with_reducible exact Below.mono hd2 hLE | with_reducible exact Below.mono hd3 hLE | with_reducible exact Below.mono hd4 hLE | (with_reducible refine Below.setCell ?_ (by first | omega | (simp <;> omega)) _))))
    (first
      | (go_at_call 85; (fail_if_success (have hq := hA1)); (refine (readq_any _ N D q h).mono ?_); rintro e w2 ⟨b1, A1, l1, c1, B1, m1, d1, rfl, hs1, hA1, hB1, hb2, _, _⟩; unfold rv; have hd1 := chain hd0 hb2)
      | (go_at_call 85; (refine (readq_any _ N' D' r h').mono ?_); rintro e w3 ⟨b2, A2, l2, c2, B2, m2, d2, rfl, hs2, hA2, hB2, hb3, _, _⟩; unfold rv; have hd2 := chain hd1 hb3)
      | (go_at_call 107; (refine (minusq_any (La := 40) (Lb := 40) _ _ _ _ _ _ _ _ q hs1 (hA1.below hb3) (hB1.below hb3) _ _ _ _ _ _ _ r hs2 hA2 hB2 (by decide)).mono ?_); rintro e w4 ⟨b3, A3, l3, c3, B3, m3, d3, rfl, hs3, hA3, hB3, hb4, _, _⟩; unfold rv; rw [HS.out] at hs3 hA3 hB3; have hd3 := chain hd2 hb4)
      | (go_at_call 106; (refine (toldq_any _ (HE.out.below hd3) _ _ _ _ _ _ _ s hs3 hA3 hB3 (by decide)).mono ?_); rintro e w5 ⟨rfl, hb5⟩; rw [hTq.out]; have hd4 := chain hd3 hb5; have y1 := cell_later (j := 0) O3.out hd4; have y2 := cell_later (j := 1) O3.out hd4; have g1 := frozen_later O3.out hd4 0; have g2 := frozen_later O3.out hd4 1; simp at y1 y2))
  have hW1 := chain hW hd4
  have hbs := hW1.size
  go_wp2
  refine bodyPost_ret (v := .tuple #[.agg #[.string TN, .string TD], .int .i64 (toldQE s)]) (by simp [results, Tryz.results104, go_sem, y1, y2]) rfl ⟨by rw [hTq.out], (hW1.setCell (by simp <;> omega) _).setCell (by simp <;> omega) _⟩

set_option maxHeartbeats 4000000 in
theorem with_times (w : World) (henv : Env w) (N D N' D' : ByteArray) (q r : Rat) (h : VQ N D q) (h' : VQ N' D' r) :
    Calls Tryz.prog 104 #[.agg #[.string N, .string D], .agg #[.string N', .string D'], .func (.func 86) #[] #[], .func (.func 106) #[] #[]] w (RetF w (q * r)) := by
  have hTq : ∃ TN TD, Hid (toldQ (q * r) = .agg #[.string TN, .string TD]) := by unfold toldQ; split <;> exact ⟨_, _, rfl⟩
  obtain ⟨TN, TD, hTq⟩ := hTq
  obtain ⟨s, hs⟩ : ∃ s, q * r = s := ⟨_, rfl⟩
  have HS := Lib.hid hs
  rw [hs] at hTq ⊢
  clear hs
  have hW : Below w.heap.size w ((((w.alloc (.cells #[.string N, .string D] 51)).alloc (.cells #[.string N', .string D'] 51)).alloc (.cells #[.string ⟨#[]⟩, .string ⟨#[]⟩] 51)).alloc (.cells #[.string N, .string D, .string N', .string D'] 51)) := (((((Below.refl w.heap.size w).alloc (Nat.le_refl _) _).alloc (by simp <;> omega) _).alloc (by simp <;> omega) _).alloc (by simp <;> omega) _)
  have o1 := heap_more (heap_more (heap_more (heap_last w (.cells #[.string N, .string D] 51)) (.cells #[.string N', .string D'] 51)) (.cells #[.string ⟨#[]⟩, .string ⟨#[]⟩] 51)) (.cells #[.string N, .string D, .string N', .string D'] 51)
  have O1 := Lib.hid o1
  clear o1
  have o2 := heap_more (heap_more (heap_last (w.alloc (.cells #[.string N, .string D] 51)) (.cells #[.string N', .string D'] 51)) (.cells #[.string ⟨#[]⟩, .string ⟨#[]⟩] 51)) (.cells #[.string N, .string D, .string N', .string D'] 51)
  rw [show (w.alloc (.cells #[.string N, .string D] 51)).heap.size = w.heap.size + 1 by simp] at o2
  have O2 := Lib.hid o2
  clear o2
  have o3 := heap_more (heap_last ((w.alloc (.cells #[.string N, .string D] 51)).alloc (.cells #[.string N', .string D'] 51)) (.cells #[.string ⟨#[]⟩, .string ⟨#[]⟩] 51)) (.cells #[.string N, .string D, .string N', .string D'] 51)
  rw [show ((w.alloc (.cells #[.string N, .string D] 51)).alloc (.cells #[.string N', .string D'] 51)).heap.size = w.heap.size + 1 + 1 by simp] at o3
  have O3 := Lib.hid o3
  clear o3
  have o4 := heap_last (((w.alloc (.cells #[.string N, .string D] 51)).alloc (.cells #[.string N', .string D'] 51)).alloc (.cells #[.string ⟨#[]⟩, .string ⟨#[]⟩] 51)) (.cells #[.string N, .string D, .string N', .string D'] 51)
  rw [show (((w.alloc (.cells #[.string N, .string D] 51)).alloc (.cells #[.string N', .string D'] 51)).alloc (.cells #[.string ⟨#[]⟩, .string ⟨#[]⟩] 51)).heap.size = w.heap.size + 1 + 1 + 1 by simp] at o4
  have O4 := Lib.hid o4
  clear o4
  have hsz : ((((w.alloc (.cells #[.string N, .string D] 51)).alloc (.cells #[.string N', .string D'] 51)).alloc (.cells #[.string ⟨#[]⟩, .string ⟨#[]⟩] 51)).alloc (.cells #[.string N, .string D, .string N', .string D'] 51)).heap.size = w.heap.size + 1 + 1 + 1 + 1 := by simp
  have HSZ := Lib.hid hsz
  clear hsz
  have HE := Lib.hid (henv.below hW)
  clear henv
  go_enter Tryz.func104, Tryz.ntmps104
  go_wp2_with fail
  refine (fall2_any _ HE.out (w.heap.size + 1 + 1 + 1) N D N' D' q r 51 (Lib.hid O4.out) h h').mono ?_
  rintro e w1 ⟨rfl, hb1⟩
  have hLE : w.heap.size + 1 + 1 ≤ ((((w.alloc (.cells #[.string N, .string D] 51)).alloc (.cells #[.string N', .string D'] 51)).alloc (.cells #[.string ⟨#[]⟩, .string ⟨#[]⟩] 51)).alloc (.cells #[.string N, .string D, .string N', .string D'] 51)).heap.size := by simp <;> omega
  have HC : Hid (∀ w', Below (w.heap.size + 1 + 1) ((((w.alloc (.cells #[.string N, .string D] 51)).alloc (.cells #[.string N', .string D'] 51)).alloc (.cells #[.string ⟨#[]⟩, .string ⟨#[]⟩] 51)).alloc (.cells #[.string N, .string D, .string N', .string D'] 51)) w' → w'.cell? ⟨w.heap.size, 0, none⟩ = some (.string N) ∧ w'.cell? ⟨w.heap.size, 1, none⟩ = some (.string D) ∧ w'.cell? ⟨w.heap.size + 1, 0, none⟩ = some (.string N') ∧ w'.cell? ⟨w.heap.size + 1, 1, none⟩ = some (.string D')) := fun w' h => ⟨cell_at O1.out (by omega) h, cell_at O1.out (by omega) h, cell_at O2.out (by omega) h, cell_at O2.out (by omega) h⟩
  have hd0 : Below ((((w.alloc (.cells #[.string N, .string D] 51)).alloc (.cells #[.string N', .string D'] 51)).alloc (.cells #[.string ⟨#[]⟩, .string ⟨#[]⟩] 51)).alloc (.cells #[.string N, .string D, .string N', .string D'] 51)).heap.size ((((w.alloc (.cells #[.string N, .string D] 51)).alloc (.cells #[.string N', .string D'] 51)).alloc (.cells #[.string ⟨#[]⟩, .string ⟨#[]⟩] 51)).alloc (.cells #[.string N, .string D, .string N', .string D'] 51)) w1.drew := hb1.drew
  go_wp2_with fail
  go_region_held3 (fun w' => w'.cell? ⟨w.heap.size, 0, none⟩ = some (.string N) ∧ w'.cell? ⟨w.heap.size, 1, none⟩ = some (.string D) ∧ w'.cell? ⟨w.heap.size + 1, 0, none⟩ = some (.string N') ∧ w'.cell? ⟨w.heap.size + 1, 1, none⟩ = some (.string D'))
    ((refine HC.out _ ?_; repeat (first | with_reducible exact Below.mono hd0 hLE | with_reducible exact Below.mono hd1 hLE | with_reducible exact Below.mono hd2 hLE | with_reducible exact Below.mono hd3 hLE | with_reducible exact Below.mono hd4 hLE | (with_reducible refine Below.setCell ?_ (by first | omega | (simp <;> omega)) _))))
    (first
      | (go_at_call 85; (fail_if_success (have hq := hA1)); (refine (readq_any _ N D q h).mono ?_); rintro e w2 ⟨b1, A1, l1, c1, B1, m1, d1, rfl, hs1, hA1, hB1, hb2, _, _⟩; unfold rv; have hd1 := chain hd0 hb2)
      | (go_at_call 85; (refine (readq_any _ N' D' r h').mono ?_); rintro e w3 ⟨b2, A2, l2, c2, B2, m2, d2, rfl, hs2, hA2, hB2, hb3, _, _⟩; unfold rv; have hd2 := chain hd1 hb3)
      | (go_at_call 86; (refine (timesq_any (La := 40) (Lb := 40) _ _ _ _ _ _ _ _ q hs1 (hA1.below hb3) (hB1.below hb3) _ _ _ _ _ _ _ r hs2 hA2 hB2 (by decide)).mono ?_); rintro e w4 ⟨b3, A3, l3, c3, B3, m3, d3, rfl, hs3, hA3, hB3, hb4, _, _⟩; unfold rv; rw [HS.out] at hs3 hA3 hB3; have hd3 := chain hd2 hb4)
      | (go_at_call 106; (refine (toldq_any _ (HE.out.below hd3) _ _ _ _ _ _ _ s hs3 hA3 hB3 (by decide)).mono ?_); rintro e w5 ⟨rfl, hb5⟩; rw [hTq.out]; have hd4 := chain hd3 hb5; have y1 := cell_later (j := 0) O3.out hd4; have y2 := cell_later (j := 1) O3.out hd4; have g1 := frozen_later O3.out hd4 0; have g2 := frozen_later O3.out hd4 1; simp at y1 y2))
  have hW1 := chain hW hd4
  have hbs := hW1.size
  go_wp2
  refine bodyPost_ret (v := .tuple #[.agg #[.string TN, .string TD], .int .i64 (toldQE s)]) (by simp [results, Tryz.results104, go_sem, y1, y2]) rfl ⟨by rw [hTq.out], (hW1.setCell (by simp <;> omega) _).setCell (by simp <;> omega) _⟩

set_option maxHeartbeats 4000000 in
theorem with_over (w : World) (henv : Env w) (N D N' D' : ByteArray) (q r : Rat) (h : VQ N D q) (h' : VQ N' D' r) (hr0 : r ≠ 0) :
    Calls Tryz.prog 104 #[.agg #[.string N, .string D], .agg #[.string N', .string D'], .func (.func 109) #[] #[], .func (.func 106) #[] #[]] w (RetF w (q / r)) := by
  have hTq : ∃ TN TD, Hid (toldQ (q / r) = .agg #[.string TN, .string TD]) := by unfold toldQ; split <;> exact ⟨_, _, rfl⟩
  obtain ⟨TN, TD, hTq⟩ := hTq
  obtain ⟨s, hs⟩ : ∃ s, q / r = s := ⟨_, rfl⟩
  have HS := Lib.hid hs
  rw [hs] at hTq ⊢
  clear hs
  have hW : Below w.heap.size w ((((w.alloc (.cells #[.string N, .string D] 51)).alloc (.cells #[.string N', .string D'] 51)).alloc (.cells #[.string ⟨#[]⟩, .string ⟨#[]⟩] 51)).alloc (.cells #[.string N, .string D, .string N', .string D'] 51)) := (((((Below.refl w.heap.size w).alloc (Nat.le_refl _) _).alloc (by simp <;> omega) _).alloc (by simp <;> omega) _).alloc (by simp <;> omega) _)
  have o1 := heap_more (heap_more (heap_more (heap_last w (.cells #[.string N, .string D] 51)) (.cells #[.string N', .string D'] 51)) (.cells #[.string ⟨#[]⟩, .string ⟨#[]⟩] 51)) (.cells #[.string N, .string D, .string N', .string D'] 51)
  have O1 := Lib.hid o1
  clear o1
  have o2 := heap_more (heap_more (heap_last (w.alloc (.cells #[.string N, .string D] 51)) (.cells #[.string N', .string D'] 51)) (.cells #[.string ⟨#[]⟩, .string ⟨#[]⟩] 51)) (.cells #[.string N, .string D, .string N', .string D'] 51)
  rw [show (w.alloc (.cells #[.string N, .string D] 51)).heap.size = w.heap.size + 1 by simp] at o2
  have O2 := Lib.hid o2
  clear o2
  have o3 := heap_more (heap_last ((w.alloc (.cells #[.string N, .string D] 51)).alloc (.cells #[.string N', .string D'] 51)) (.cells #[.string ⟨#[]⟩, .string ⟨#[]⟩] 51)) (.cells #[.string N, .string D, .string N', .string D'] 51)
  rw [show ((w.alloc (.cells #[.string N, .string D] 51)).alloc (.cells #[.string N', .string D'] 51)).heap.size = w.heap.size + 1 + 1 by simp] at o3
  have O3 := Lib.hid o3
  clear o3
  have o4 := heap_last (((w.alloc (.cells #[.string N, .string D] 51)).alloc (.cells #[.string N', .string D'] 51)).alloc (.cells #[.string ⟨#[]⟩, .string ⟨#[]⟩] 51)) (.cells #[.string N, .string D, .string N', .string D'] 51)
  rw [show (((w.alloc (.cells #[.string N, .string D] 51)).alloc (.cells #[.string N', .string D'] 51)).alloc (.cells #[.string ⟨#[]⟩, .string ⟨#[]⟩] 51)).heap.size = w.heap.size + 1 + 1 + 1 by simp] at o4
  have O4 := Lib.hid o4
  clear o4
  have hsz : ((((w.alloc (.cells #[.string N, .string D] 51)).alloc (.cells #[.string N', .string D'] 51)).alloc (.cells #[.string ⟨#[]⟩, .string ⟨#[]⟩] 51)).alloc (.cells #[.string N, .string D, .string N', .string D'] 51)).heap.size = w.heap.size + 1 + 1 + 1 + 1 := by simp
  have HSZ := Lib.hid hsz
  clear hsz
  have HE := Lib.hid (henv.below hW)
  clear henv
  go_enter Tryz.func104, Tryz.ntmps104
  go_wp2_with fail
  refine (fall2_any _ HE.out (w.heap.size + 1 + 1 + 1) N D N' D' q r 51 (Lib.hid O4.out) h h').mono ?_
  rintro e w1 ⟨rfl, hb1⟩
  have hLE : w.heap.size + 1 + 1 ≤ ((((w.alloc (.cells #[.string N, .string D] 51)).alloc (.cells #[.string N', .string D'] 51)).alloc (.cells #[.string ⟨#[]⟩, .string ⟨#[]⟩] 51)).alloc (.cells #[.string N, .string D, .string N', .string D'] 51)).heap.size := by simp <;> omega
  have HC : Hid (∀ w', Below (w.heap.size + 1 + 1) ((((w.alloc (.cells #[.string N, .string D] 51)).alloc (.cells #[.string N', .string D'] 51)).alloc (.cells #[.string ⟨#[]⟩, .string ⟨#[]⟩] 51)).alloc (.cells #[.string N, .string D, .string N', .string D'] 51)) w' → w'.cell? ⟨w.heap.size, 0, none⟩ = some (.string N) ∧ w'.cell? ⟨w.heap.size, 1, none⟩ = some (.string D) ∧ w'.cell? ⟨w.heap.size + 1, 0, none⟩ = some (.string N') ∧ w'.cell? ⟨w.heap.size + 1, 1, none⟩ = some (.string D')) := fun w' h => ⟨cell_at O1.out (by omega) h, cell_at O1.out (by omega) h, cell_at O2.out (by omega) h, cell_at O2.out (by omega) h⟩
  have hd0 : Below ((((w.alloc (.cells #[.string N, .string D] 51)).alloc (.cells #[.string N', .string D'] 51)).alloc (.cells #[.string ⟨#[]⟩, .string ⟨#[]⟩] 51)).alloc (.cells #[.string N, .string D, .string N', .string D'] 51)).heap.size ((((w.alloc (.cells #[.string N, .string D] 51)).alloc (.cells #[.string N', .string D'] 51)).alloc (.cells #[.string ⟨#[]⟩, .string ⟨#[]⟩] 51)).alloc (.cells #[.string N, .string D, .string N', .string D'] 51)) w1.drew := hb1.drew
  go_wp2_with fail
  go_region_held3 (fun w' => w'.cell? ⟨w.heap.size, 0, none⟩ = some (.string N) ∧ w'.cell? ⟨w.heap.size, 1, none⟩ = some (.string D) ∧ w'.cell? ⟨w.heap.size + 1, 0, none⟩ = some (.string N') ∧ w'.cell? ⟨w.heap.size + 1, 1, none⟩ = some (.string D'))
    ((refine HC.out _ ?_; repeat (first | with_reducible exact Below.mono hd0 hLE | with_reducible exact Below.mono hd1 hLE | with_reducible exact Below.mono hd2 hLE | with_reducible exact Below.mono hd3 hLE | with_reducible exact Below.mono hd4 hLE | (with_reducible refine Below.setCell ?_ (by first | omega | (simp <;> omega)) _))))
    (first
      | (go_at_call 85; (fail_if_success (have hq := hA1)); (refine (readq_any _ N D q h).mono ?_); rintro e w2 ⟨b1, A1, l1, c1, B1, m1, d1, rfl, hs1, hA1, hB1, hb2, _, _⟩; unfold rv; have hd1 := chain hd0 hb2)
      | (go_at_call 85; (refine (readq_any _ N' D' r h').mono ?_); rintro e w3 ⟨b2, A2, l2, c2, B2, m2, d2, rfl, hs2, hA2, hB2, hb3, _, _⟩; unfold rv; have hd2 := chain hd1 hb3)
      | (go_at_call 109; (refine (overq_any (La := 40) (Lb := 40) _ _ _ _ _ _ _ _ q hs1 (hA1.below hb3) (hB1.below hb3) _ _ _ _ _ _ _ r hs2 hA2 hB2 hr0 (by decide)).mono ?_); rintro e w4 ⟨b3, A3, l3, c3, B3, m3, d3, rfl, hs3, hA3, hB3, hb4, _, _⟩; unfold rv; rw [HS.out] at hs3 hA3 hB3; have hd3 := chain hd2 hb4)
      | (go_at_call 106; (refine (toldq_any _ (HE.out.below hd3) _ _ _ _ _ _ _ s hs3 hA3 hB3 (by decide)).mono ?_); rintro e w5 ⟨rfl, hb5⟩; rw [hTq.out]; have hd4 := chain hd3 hb5; have y1 := cell_later (j := 0) O3.out hd4; have y2 := cell_later (j := 1) O3.out hd4; have g1 := frozen_later O3.out hd4 0; have g2 := frozen_later O3.out hd4 1; simp at y1 y2))
  have hW1 := chain hW hd4
  have hbs := hW1.size
  go_wp2
  refine bodyPost_ret (v := .tuple #[.agg #[.string TN, .string TD], .int .i64 (toldQE s)]) (by simp [results, Tryz.results104, go_sem, y1, y2]) rfl ⟨by rw [hTq.out], (hW1.setCell (by simp <;> omega) _).setCell (by simp <;> omega) _⟩

end Go.Proofs.YtkajibniibjblaaGreatDoor

namespace Go.Proofs.YtkajibniibjblaaGreatDoor
open Go.RowKit
set_option maxRecDepth 100000

theorem toldQ_agg (q : Rat) : ∃ TN TD, Hid (toldQ q = .agg #[.string TN, .string TD]) := by unfold toldQ; split <;> exact ⟨_, _, rfl⟩
theorem pow20 : (10 : Nat) ^ 20 = 100000000000000000000 := by decide
theorem fits_i64 {z : Int} (h0 : -9223372036854775808 ≤ z) (h1 : z ≤ 9223372036854775808) : fits z = true :=
  fits_le (k := 20) (by rw [pow20]; omega) (by decide) (by decide)
theorem text_zero {N : ByteArray} {z : Int} (h : VW N z) : N.toList = [48] ↔ z = 0 := by
  have ht := h.text
  rw [Lib.toList_data, ht]
  constructor
  · intro e
    have h1 := trim_itoa z
    rw [e] at h1
    have h2 : Lib.trimPrefix [48] [45] = [48] := trimPrefix_other (by decide)
    rw [h2] at h1
    have h3 := dval_decDigits z.natAbs
    rw [← h1] at h3
    have : z.natAbs = 0 := h3.symm
    omega
  · rintro rfl
    rw [Lib.itoa, if_neg (by decide)]
    exact dec_small (by decide)
theorem fadd_any (w : World) (henv : Env w) (N D N' D' : ByteArray) (q r : Rat) (h : VQ N D q) (h' : VQ N' D' r) :
    Calls Tryz.prog 45 #[.agg #[.string N, .string D], .agg #[.string N', .string D']] w (RetF w (q + r)) := by
  obtain ⟨TN, TD, hTq⟩ := toldQ_agg (q + r)
  have hW : Below w.heap.size w (((w.alloc (.cells #[.string N, .string D] 51)).alloc (.cells #[.string N', .string D'] 51)).alloc (.cells #[.string ⟨#[]⟩, .string ⟨#[]⟩] 51)) := ((((Below.refl w.heap.size w).alloc (Nat.le_refl _) _).alloc (by simp <;> omega) _).alloc (by simp <;> omega) _)
  have o1 := heap_more (heap_more (heap_last w (.cells #[.string N, .string D] 51)) (.cells #[.string N', .string D'] 51)) (.cells #[.string ⟨#[]⟩, .string ⟨#[]⟩] 51)
  have O1 := Lib.hid o1
  clear o1
  have o2 := heap_more (heap_last (w.alloc (.cells #[.string N, .string D] 51)) (.cells #[.string N', .string D'] 51)) (.cells #[.string ⟨#[]⟩, .string ⟨#[]⟩] 51)
  rw [show (w.alloc (.cells #[.string N, .string D] 51)).heap.size = w.heap.size + 1 by simp] at o2
  have O2 := Lib.hid o2
  clear o2
  have o3 := heap_last ((w.alloc (.cells #[.string N, .string D] 51)).alloc (.cells #[.string N', .string D'] 51)) (.cells #[.string ⟨#[]⟩, .string ⟨#[]⟩] 51)
  rw [show ((w.alloc (.cells #[.string N, .string D] 51)).alloc (.cells #[.string N', .string D'] 51)).heap.size = w.heap.size + 1 + 1 by simp] at o3
  have O3 := Lib.hid o3
  clear o3
  have hsz : (((w.alloc (.cells #[.string N, .string D] 51)).alloc (.cells #[.string N', .string D'] 51)).alloc (.cells #[.string ⟨#[]⟩, .string ⟨#[]⟩] 51)).heap.size = w.heap.size + 1 + 1 + 1 := by simp
  have HSZ := Lib.hid hsz
  clear hsz
  have HE := Lib.hid (henv.below hW)
  clear henv
  go_enter Tryz.func45, Tryz.ntmps45
  go_wp2_with fail
  refine (with_plus _ HE.out N D N' D' q r h h').mono ?_
  rintro e w1 ⟨rfl, hb1⟩
  rw [hTq.out]
  have hW1 := chain hW hb1
  have hbs := hW1.size
  have y1 := cell_later (j := 0) O3.out hb1
  have y2 := cell_later (j := 1) O3.out hb1
  have g1 := frozen_later O3.out hb1 0
  have g2 := frozen_later O3.out hb1 1
  simp at y1 y2
  go_wp2
  refine bodyPost_ret (v := .tuple #[.agg #[.string TN, .string TD], .int .i64 (toldQE (q + r))]) (by simp [results, Tryz.results45, go_sem, y1, y2]) rfl ⟨by rw [hTq.out], (hW1.setCell (by simp <;> omega) _).setCell (by simp <;> omega) _⟩

theorem fsub_any (w : World) (henv : Env w) (N D N' D' : ByteArray) (q r : Rat) (h : VQ N D q) (h' : VQ N' D' r) :
    Calls Tryz.prog 46 #[.agg #[.string N, .string D], .agg #[.string N', .string D']] w (RetF w (q - r)) := by
  obtain ⟨TN, TD, hTq⟩ := toldQ_agg (q - r)
  have hW : Below w.heap.size w (((w.alloc (.cells #[.string N, .string D] 51)).alloc (.cells #[.string N', .string D'] 51)).alloc (.cells #[.string ⟨#[]⟩, .string ⟨#[]⟩] 51)) := ((((Below.refl w.heap.size w).alloc (Nat.le_refl _) _).alloc (by simp <;> omega) _).alloc (by simp <;> omega) _)
  have o1 := heap_more (heap_more (heap_last w (.cells #[.string N, .string D] 51)) (.cells #[.string N', .string D'] 51)) (.cells #[.string ⟨#[]⟩, .string ⟨#[]⟩] 51)
  have O1 := Lib.hid o1
  clear o1
  have o2 := heap_more (heap_last (w.alloc (.cells #[.string N, .string D] 51)) (.cells #[.string N', .string D'] 51)) (.cells #[.string ⟨#[]⟩, .string ⟨#[]⟩] 51)
  rw [show (w.alloc (.cells #[.string N, .string D] 51)).heap.size = w.heap.size + 1 by simp] at o2
  have O2 := Lib.hid o2
  clear o2
  have o3 := heap_last ((w.alloc (.cells #[.string N, .string D] 51)).alloc (.cells #[.string N', .string D'] 51)) (.cells #[.string ⟨#[]⟩, .string ⟨#[]⟩] 51)
  rw [show ((w.alloc (.cells #[.string N, .string D] 51)).alloc (.cells #[.string N', .string D'] 51)).heap.size = w.heap.size + 1 + 1 by simp] at o3
  have O3 := Lib.hid o3
  clear o3
  have hsz : (((w.alloc (.cells #[.string N, .string D] 51)).alloc (.cells #[.string N', .string D'] 51)).alloc (.cells #[.string ⟨#[]⟩, .string ⟨#[]⟩] 51)).heap.size = w.heap.size + 1 + 1 + 1 := by simp
  have HSZ := Lib.hid hsz
  clear hsz
  have HE := Lib.hid (henv.below hW)
  clear henv
  go_enter Tryz.func46, Tryz.ntmps46
  go_wp2_with fail
  refine (with_minus _ HE.out N D N' D' q r h h').mono ?_
  rintro e w1 ⟨rfl, hb1⟩
  rw [hTq.out]
  have hW1 := chain hW hb1
  have hbs := hW1.size
  have y1 := cell_later (j := 0) O3.out hb1
  have y2 := cell_later (j := 1) O3.out hb1
  have g1 := frozen_later O3.out hb1 0
  have g2 := frozen_later O3.out hb1 1
  simp at y1 y2
  go_wp2
  refine bodyPost_ret (v := .tuple #[.agg #[.string TN, .string TD], .int .i64 (toldQE (q - r))]) (by simp [results, Tryz.results46, go_sem, y1, y2]) rfl ⟨by rw [hTq.out], (hW1.setCell (by simp <;> omega) _).setCell (by simp <;> omega) _⟩

theorem fmul_any (w : World) (henv : Env w) (N D N' D' : ByteArray) (q r : Rat) (h : VQ N D q) (h' : VQ N' D' r) :
    Calls Tryz.prog 47 #[.agg #[.string N, .string D], .agg #[.string N', .string D']] w (RetF w (q * r)) := by
  obtain ⟨TN, TD, hTq⟩ := toldQ_agg (q * r)
  have hW : Below w.heap.size w (((w.alloc (.cells #[.string N, .string D] 51)).alloc (.cells #[.string N', .string D'] 51)).alloc (.cells #[.string ⟨#[]⟩, .string ⟨#[]⟩] 51)) := ((((Below.refl w.heap.size w).alloc (Nat.le_refl _) _).alloc (by simp <;> omega) _).alloc (by simp <;> omega) _)
  have o1 := heap_more (heap_more (heap_last w (.cells #[.string N, .string D] 51)) (.cells #[.string N', .string D'] 51)) (.cells #[.string ⟨#[]⟩, .string ⟨#[]⟩] 51)
  have O1 := Lib.hid o1
  clear o1
  have o2 := heap_more (heap_last (w.alloc (.cells #[.string N, .string D] 51)) (.cells #[.string N', .string D'] 51)) (.cells #[.string ⟨#[]⟩, .string ⟨#[]⟩] 51)
  rw [show (w.alloc (.cells #[.string N, .string D] 51)).heap.size = w.heap.size + 1 by simp] at o2
  have O2 := Lib.hid o2
  clear o2
  have o3 := heap_last ((w.alloc (.cells #[.string N, .string D] 51)).alloc (.cells #[.string N', .string D'] 51)) (.cells #[.string ⟨#[]⟩, .string ⟨#[]⟩] 51)
  rw [show ((w.alloc (.cells #[.string N, .string D] 51)).alloc (.cells #[.string N', .string D'] 51)).heap.size = w.heap.size + 1 + 1 by simp] at o3
  have O3 := Lib.hid o3
  clear o3
  have hsz : (((w.alloc (.cells #[.string N, .string D] 51)).alloc (.cells #[.string N', .string D'] 51)).alloc (.cells #[.string ⟨#[]⟩, .string ⟨#[]⟩] 51)).heap.size = w.heap.size + 1 + 1 + 1 := by simp
  have HSZ := Lib.hid hsz
  clear hsz
  have HE := Lib.hid (henv.below hW)
  clear henv
  go_enter Tryz.func47, Tryz.ntmps47
  go_wp2_with fail
  refine (with_times _ HE.out N D N' D' q r h h').mono ?_
  rintro e w1 ⟨rfl, hb1⟩
  rw [hTq.out]
  have hW1 := chain hW hb1
  have hbs := hW1.size
  have y1 := cell_later (j := 0) O3.out hb1
  have y2 := cell_later (j := 1) O3.out hb1
  have g1 := frozen_later O3.out hb1 0
  have g2 := frozen_later O3.out hb1 1
  simp at y1 y2
  go_wp2
  refine bodyPost_ret (v := .tuple #[.agg #[.string TN, .string TD], .int .i64 (toldQE (q * r))]) (by simp [results, Tryz.results47, go_sem, y1, y2]) rfl ⟨by rw [hTq.out], (hW1.setCell (by simp <;> omega) _).setCell (by simp <;> omega) _⟩

set_option maxHeartbeats 1000000 in
theorem fdiv_any (w : World) (henv : Env w) (N D N' D' : ByteArray) (q r : Rat) (h : VQ N D q) (h' : VQ N' D' r) (hr0 : r ≠ 0) :
    Calls Tryz.prog 48 #[.agg #[.string N, .string D], .agg #[.string N', .string D']] w (RetF w (q / r)) := by
  obtain ⟨TN, TD, hTq⟩ := toldQ_agg (q / r)
  have hz : (N'.toList == [48]) = false := by
    rw [beq_eq_false_iff_ne, Ne, text_zero h'.num]
    intro e
    exact hr0 (Rat.num_eq_zero.1 e)
  have hW : Below w.heap.size w ((((w.alloc (.cells #[.string N, .string D] 51)).alloc (.cells #[.string N', .string D'] 51)).alloc (.cells #[.string ⟨#[]⟩, .string ⟨#[]⟩] 51)).alloc (.cells #[.string N, .string D, .string N', .string D'] 51)) := (((((Below.refl w.heap.size w).alloc (Nat.le_refl _) _).alloc (by simp <;> omega) _).alloc (by simp <;> omega) _).alloc (by simp <;> omega) _)
  have o1 := heap_more (heap_more (heap_more (heap_last w (.cells #[.string N, .string D] 51)) (.cells #[.string N', .string D'] 51)) (.cells #[.string ⟨#[]⟩, .string ⟨#[]⟩] 51)) (.cells #[.string N, .string D, .string N', .string D'] 51)
  have O1 := Lib.hid o1
  clear o1
  have o2 := heap_more (heap_more (heap_last (w.alloc (.cells #[.string N, .string D] 51)) (.cells #[.string N', .string D'] 51)) (.cells #[.string ⟨#[]⟩, .string ⟨#[]⟩] 51)) (.cells #[.string N, .string D, .string N', .string D'] 51)
  rw [show (w.alloc (.cells #[.string N, .string D] 51)).heap.size = w.heap.size + 1 by simp] at o2
  have O2 := Lib.hid o2
  clear o2
  have o3 := heap_more (heap_last ((w.alloc (.cells #[.string N, .string D] 51)).alloc (.cells #[.string N', .string D'] 51)) (.cells #[.string ⟨#[]⟩, .string ⟨#[]⟩] 51)) (.cells #[.string N, .string D, .string N', .string D'] 51)
  rw [show ((w.alloc (.cells #[.string N, .string D] 51)).alloc (.cells #[.string N', .string D'] 51)).heap.size = w.heap.size + 1 + 1 by simp] at o3
  have O3 := Lib.hid o3
  clear o3
  have o4 := heap_last (((w.alloc (.cells #[.string N, .string D] 51)).alloc (.cells #[.string N', .string D'] 51)).alloc (.cells #[.string ⟨#[]⟩, .string ⟨#[]⟩] 51)) (.cells #[.string N, .string D, .string N', .string D'] 51)
  rw [show (((w.alloc (.cells #[.string N, .string D] 51)).alloc (.cells #[.string N', .string D'] 51)).alloc (.cells #[.string ⟨#[]⟩, .string ⟨#[]⟩] 51)).heap.size = w.heap.size + 1 + 1 + 1 by simp] at o4
  have O4 := Lib.hid o4
  clear o4
  have hsz : ((((w.alloc (.cells #[.string N, .string D] 51)).alloc (.cells #[.string N', .string D'] 51)).alloc (.cells #[.string ⟨#[]⟩, .string ⟨#[]⟩] 51)).alloc (.cells #[.string N, .string D, .string N', .string D'] 51)).heap.size = w.heap.size + 1 + 1 + 1 + 1 := by simp
  have HSZ := Lib.hid hsz
  clear hsz
  have HE := Lib.hid (henv.below hW)
  clear henv
  go_enter Tryz.func48, Tryz.ntmps48
  go_wp2_with fail
  refine (fall2_any _ HE.out (w.heap.size + 1 + 1 + 1) N D N' D' q r 51 (Lib.hid O4.out) h h').mono ?_
  rintro e w1 ⟨rfl, hb1⟩
  have x1 := cell_later (j := 0) O1.out hb1
  have x2 := cell_later (j := 1) O1.out hb1
  have x3 := cell_later (j := 0) O2.out hb1
  have x4 := cell_later (j := 1) O2.out hb1
  simp at x1 x2 x3 x4
  go_wp2_with fail
  refine (with_over _ (HE.out.below hb1) N D N' D' q r h h' hr0).mono ?_
  rintro e w2 ⟨rfl, hb2⟩
  rw [hTq.out]
  have hb12 := chain hb1 hb2
  have hW1 := chain hW hb12
  have hbs := hW1.size
  have y1 := cell_later (j := 0) O3.out hb12
  have y2 := cell_later (j := 1) O3.out hb12
  have g1 := frozen_later O3.out hb12 0
  have g2 := frozen_later O3.out hb12 1
  simp at y1 y2
  go_wp2
  refine bodyPost_ret (v := .tuple #[.agg #[.string TN, .string TD], .int .i64 (toldQE (q / r))]) (by simp [results, Tryz.results48, go_sem, y1, y2]) rfl ⟨by rw [hTq.out], (hW1.setCell (by simp <;> omega) _).setCell (by simp <;> omega) _⟩

set_option maxHeartbeats 1000000 in
theorem fdiv_zero (w : World) (henv : Env w) (N D N' D' : ByteArray) (q r : Rat) (h : VQ N D q) (h' : VQ N' D' r) (hr0 : r = 0) :
    Calls Tryz.prog 48 #[.agg #[.string N, .string D], .agg #[.string N', .string D']] w fun e w' => e = .returned (.tuple #[.agg #[.string ⟨#[]⟩, .string ⟨#[]⟩], .int .i64 7]) ∧ Below w.heap.size w w' := by
  have hz : (N'.toList == [48]) = true := by rw [beq_iff_eq, text_zero h'.num, hr0]; rfl
  have hW : Below w.heap.size w ((((w.alloc (.cells #[.string N, .string D] 51)).alloc (.cells #[.string N', .string D'] 51)).alloc (.cells #[.string ⟨#[]⟩, .string ⟨#[]⟩] 51)).alloc (.cells #[.string N, .string D, .string N', .string D'] 51)) := (((((Below.refl w.heap.size w).alloc (Nat.le_refl _) _).alloc (by simp <;> omega) _).alloc (by simp <;> omega) _).alloc (by simp <;> omega) _)
  have o1 := heap_more (heap_more (heap_more (heap_last w (.cells #[.string N, .string D] 51)) (.cells #[.string N', .string D'] 51)) (.cells #[.string ⟨#[]⟩, .string ⟨#[]⟩] 51)) (.cells #[.string N, .string D, .string N', .string D'] 51)
  have O1 := Lib.hid o1
  clear o1
  have o2 := heap_more (heap_more (heap_last (w.alloc (.cells #[.string N, .string D] 51)) (.cells #[.string N', .string D'] 51)) (.cells #[.string ⟨#[]⟩, .string ⟨#[]⟩] 51)) (.cells #[.string N, .string D, .string N', .string D'] 51)
  rw [show (w.alloc (.cells #[.string N, .string D] 51)).heap.size = w.heap.size + 1 by simp] at o2
  have O2 := Lib.hid o2
  clear o2
  have o3 := heap_more (heap_last ((w.alloc (.cells #[.string N, .string D] 51)).alloc (.cells #[.string N', .string D'] 51)) (.cells #[.string ⟨#[]⟩, .string ⟨#[]⟩] 51)) (.cells #[.string N, .string D, .string N', .string D'] 51)
  rw [show ((w.alloc (.cells #[.string N, .string D] 51)).alloc (.cells #[.string N', .string D'] 51)).heap.size = w.heap.size + 1 + 1 by simp] at o3
  have O3 := Lib.hid o3
  clear o3
  have o4 := heap_last (((w.alloc (.cells #[.string N, .string D] 51)).alloc (.cells #[.string N', .string D'] 51)).alloc (.cells #[.string ⟨#[]⟩, .string ⟨#[]⟩] 51)) (.cells #[.string N, .string D, .string N', .string D'] 51)
  rw [show (((w.alloc (.cells #[.string N, .string D] 51)).alloc (.cells #[.string N', .string D'] 51)).alloc (.cells #[.string ⟨#[]⟩, .string ⟨#[]⟩] 51)).heap.size = w.heap.size + 1 + 1 + 1 by simp] at o4
  have O4 := Lib.hid o4
  clear o4
  have hsz : ((((w.alloc (.cells #[.string N, .string D] 51)).alloc (.cells #[.string N', .string D'] 51)).alloc (.cells #[.string ⟨#[]⟩, .string ⟨#[]⟩] 51)).alloc (.cells #[.string N, .string D, .string N', .string D'] 51)).heap.size = w.heap.size + 1 + 1 + 1 + 1 := by simp
  have HSZ := Lib.hid hsz
  clear hsz
  have HE := Lib.hid (henv.below hW)
  clear henv
  go_enter Tryz.func48, Tryz.ntmps48
  go_wp2_with fail
  refine (fall2_any _ HE.out (w.heap.size + 1 + 1 + 1) N D N' D' q r 51 (Lib.hid O4.out) h h').mono ?_
  rintro e w1 ⟨rfl, hb1⟩
  have x3 := cell_later (j := 0) O2.out hb1
  simp at x3
  have hW1 := chain hW hb1
  have hbs := hW1.size
  have y1 := cell_later (j := 0) O3.out hb1
  have y2 := cell_later (j := 1) O3.out hb1
  have g1 := frozen_later O3.out hb1 0
  have g2 := frozen_later O3.out hb1 1
  simp at y1 y2
  go_wp2
  refine bodyPost_ret (v := .tuple #[.agg #[.string ⟨#[]⟩, .string ⟨#[]⟩], .int .i64 7]) (by simp [results, Tryz.results48, go_sem, y1, y2]) rfl ⟨rfl, (hW1.setCell (by simp <;> omega) _).setCell (by simp <;> omega) _⟩

theorem fdiv_all (w : World) (henv : Env w) (N D N' D' : ByteArray) (q r : Rat) (h : VQ N D q) (h' : VQ N' D' r) :
    Calls Tryz.prog 48 #[.agg #[.string N, .string D], .agg #[.string N', .string D']] w fun e w' => ∃ WN WD fe, e = .returned (.tuple #[.agg #[.string WN, .string WD], .int .i64 fe]) ∧ Below w.heap.size w w' := by
  by_cases hr0 : r = 0
  · exact (fdiv_zero w henv N D N' D' q r h h' hr0).mono fun e w' ⟨h1, h2⟩ => ⟨_, _, _, h1, h2⟩
  · refine (fdiv_any w henv N D N' D' q r h h' hr0).mono fun e w' ⟨h1, h2⟩ => ?_
    obtain ⟨TN, TD, hTq⟩ := toldQ_agg (q / r)
    exact ⟨TN, TD, _, by rw [h1, hTq.out], h2⟩

set_option maxHeartbeats 1000000 in
theorem make_pos (w : World) (henv : Env w) (N D : ByteArray) (y : Int) (b : Nat) (hN : VW N y) (hD : VW D (b : Int)) (hb : 0 < b) :
    Calls Tryz.prog 102 #[.string N, .string D] w (RetF w (mkRat y b)) := by
  obtain ⟨TN, TD, hTq⟩ := toldQ_agg (mkRat y b)
  have e1 := hN.ok
  have e2 := hD.ok
  have hz : (D.toList == [48]) = false := by
    rw [beq_eq_false_iff_ne, Ne, text_zero hD]; omega
  have hW : Below w.heap.size w (w.alloc (.cells #[.string ⟨#[]⟩, .string ⟨#[]⟩] 51)) := ((Below.refl w.heap.size w).alloc (Nat.le_refl _) _)
  have o1 := heap_last w (.cells #[.string ⟨#[]⟩, .string ⟨#[]⟩] 51)
  have O1 := Lib.hid o1
  clear o1
  have hsz : (w.alloc (.cells #[.string ⟨#[]⟩, .string ⟨#[]⟩] 51)).heap.size = w.heap.size + 1 := by simp
  have HSZ := Lib.hid hsz
  clear hsz
  have HE := Lib.hid (henv.below hW)
  clear henv
  go_enter Tryz.func102, Tryz.ntmps102
  go_wp2_with fail
  refine (check_any _ N).mono ?_
  rintro e w1 ⟨rfl, hb1⟩
  rw [e1]
  go_wp2_with fail
  refine (check_any _ D).mono ?_
  rintro e w2 ⟨rfl, hb2⟩
  rw [e2]
  have hb12 := chain hb1 hb2
  go_wp2_with fail
  refine (read_vw _ hN).mono ?_
  rintro e w3 ⟨b3, A3, l3, c3, rfl, hs3, hA3, hb3, _⟩
  go_wp2_with fail
  refine (read_vw _ hD).mono ?_
  rintro e w4 ⟨b4, A4, l4, c4, rfl, hs4, hA4, hb4, _⟩
  obtain rfl : b4 = false := by rw [hs4.out]; simp
  rw [Int.natAbs_natCast] at hA4
  have hwa : Below w4.heap.size w4 ((w4.alloc (.cells #[.bool b3, .slice A3 l3 c3] 116)).alloc (.cells #[.bool false, .slice A4 l4 c4] 116)) := below_alloc2 _ _ _
  go_wp2_with fail
  refine (lowest_any _ _ _ _ _ y hs3.out ((hA3.below hb4).below hwa) _ _ _ b (hA4.below hwa) hb (by decide)).mono ?_
  rintro e w5 ⟨b5, A5, l5, c5, B5, m5, d5, rfl, hs5, hA5, hB5, hb5, _, _⟩
  unfold rv
  have hc5 := chain (chain (chain (chain hb12 hb3) hb4) hwa) hb5
  go_wp2_with fail
  refine (toldq_any _ (HE.out.below hc5) _ _ _ _ _ _ _ (mkRat y b) hs5 hA5 hB5 (by decide)).mono ?_
  rintro e w6 ⟨rfl, hb6⟩
  rw [hTq.out]
  have hc6 := chain hc5 hb6
  have hW1 := chain hW hc6
  have hbs := hW1.size
  have y1 := cell_later (j := 0) O1.out hc6
  have y2 := cell_later (j := 1) O1.out hc6
  have g1 := frozen_later O1.out hc6 0
  have g2 := frozen_later O1.out hc6 1
  simp at y1 y2
  go_wp2
  refine bodyPost_ret (v := .tuple #[.agg #[.string TN, .string TD], .int .i64 (toldQE (mkRat y b))]) (by simp [results, Tryz.results102, go_sem, y1, y2]) rfl ⟨by rw [hTq.out], (hW1.setCell (by simp <;> omega) _).setCell (by simp <;> omega) _⟩

theorem fof_any (w : World) (henv : Env w) (n d : Int) (h0 : -9223372036854775808 ≤ n) (h1 : n < 9223372036854775808) (hd : 0 < d) (hd1 : d < 9223372036854775808) :
    Calls Tryz.prog 44 #[.int .i64 n, .int .i64 d] w (RetF w (mkRat n d.toNat)) := by
  obtain ⟨TN, TD, hTq⟩ := toldQ_agg (mkRat n d.toNat)
  have hfn : fits n = true := fits_i64 h0 (by omega)
  have hfd : fits d = true := fits_i64 (by omega) (by omega)
  have HVN := Lib.hid (vw_toldS hfn)
  have HVD : Hid (VW (toldS d) ((d.toNat : Nat) : Int)) := by show VW _ _; rw [Int.toNat_of_nonneg (by omega)]; exact vw_toldS hfd
  have hdp : 0 < d.toNat := by omega
  clear hfn hfd
  have hW : Below w.heap.size w (w.alloc (.cells #[.string ⟨#[]⟩, .string ⟨#[]⟩] 51)) := ((Below.refl w.heap.size w).alloc (Nat.le_refl _) _)
  have o1 := heap_last w (.cells #[.string ⟨#[]⟩, .string ⟨#[]⟩] 51)
  have O1 := Lib.hid o1
  clear o1
  have hsz : (w.alloc (.cells #[.string ⟨#[]⟩, .string ⟨#[]⟩] 51)).heap.size = w.heap.size + 1 := by simp
  have HSZ := Lib.hid hsz
  clear hsz
  have HE := Lib.hid (henv.below hW)
  clear henv
  go_enter Tryz.func44, Tryz.ntmps44
  go_wp2_with fail
  refine (of_any _ HE.out n h0 h1).mono ?_
  rintro e w1 ⟨rfl, hb1⟩
  go_wp2_with fail
  refine (of_any _ (HE.out.below hb1) d (by omega) hd1).mono ?_
  rintro e w2 ⟨rfl, hb2⟩
  have hb12 := chain hb1 hb2
  go_wp2_with fail
  refine (make_pos _ (HE.out.below hb12) _ _ n d.toNat HVN.out HVD.out hdp).mono ?_
  rintro e w3 ⟨rfl, hb3⟩
  rw [hTq.out]
  have hc3 := chain hb12 hb3
  have hW1 := chain hW hc3
  have hbs := hW1.size
  have y1 := cell_later (j := 0) O1.out hc3
  have y2 := cell_later (j := 1) O1.out hc3
  have g1 := frozen_later O1.out hc3 0
  have g2 := frozen_later O1.out hc3 1
  simp at y1 y2
  go_wp2
  refine bodyPost_ret (v := .tuple #[.agg #[.string TN, .string TD], .int .i64 (toldQE (mkRat n d.toNat))]) (by simp [results, Tryz.results44, go_sem, y1, y2]) rfl ⟨by rw [hTq.out], (hW1.setCell (by simp <;> omega) _).setCell (by simp <;> omega) _⟩
end Go.Proofs.YtkajibniibjblaaGreatDoor
