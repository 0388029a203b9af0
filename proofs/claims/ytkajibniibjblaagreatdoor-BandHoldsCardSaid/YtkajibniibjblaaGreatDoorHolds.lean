/-
  BandHolds: the walk.
-/
import Derived.Test.YtkajibniibjblaaGreatDoorClamps
import Derived.IntWalk
import Derived.Test.YtkajibniibjblaaGreatDoorHas
namespace Go.Proofs.YtkajibniibjblaaGreatDoor
open Go.RowKit
set_option maxRecDepth 100000

theorem idx4_0 (W : World) : (Instr.index 73 (.agg #[.func (.func 11) #[] #[], .func (.func 14) #[] #[], .func (.func 12) #[] #[], .func (.func 23) #[] #[]]) (.int .i64 0)).run Tryz.prog W = .ok (.func (.func 11) #[] #[]) W := by kernel_rfl

theorem idf4_0 (W : World) : (Instr.index 75 (.agg #[.func (.func 45) #[] #[], .func (.func 46) #[] #[], .func (.func 47) #[] #[], .func (.func 48) #[] #[]]) (.int .i64 0)).run Tryz.prog W = .ok (.func (.func 45) #[] #[]) W := by kernel_rfl

theorem idx4_1 (W : World) : (Instr.index 73 (.agg #[.func (.func 11) #[] #[], .func (.func 14) #[] #[], .func (.func 12) #[] #[], .func (.func 23) #[] #[]]) (.int .i64 1)).run Tryz.prog W = .ok (.func (.func 14) #[] #[]) W := by kernel_rfl

theorem idf4_1 (W : World) : (Instr.index 75 (.agg #[.func (.func 45) #[] #[], .func (.func 46) #[] #[], .func (.func 47) #[] #[], .func (.func 48) #[] #[]]) (.int .i64 1)).run Tryz.prog W = .ok (.func (.func 46) #[] #[]) W := by kernel_rfl

theorem idx4_2 (W : World) : (Instr.index 73 (.agg #[.func (.func 11) #[] #[], .func (.func 14) #[] #[], .func (.func 12) #[] #[], .func (.func 23) #[] #[]]) (.int .i64 2)).run Tryz.prog W = .ok (.func (.func 12) #[] #[]) W := by kernel_rfl

theorem idf4_2 (W : World) : (Instr.index 75 (.agg #[.func (.func 45) #[] #[], .func (.func 46) #[] #[], .func (.func 47) #[] #[], .func (.func 48) #[] #[]]) (.int .i64 2)).run Tryz.prog W = .ok (.func (.func 47) #[] #[]) W := by kernel_rfl

theorem idx4_3 (W : World) : (Instr.index 73 (.agg #[.func (.func 11) #[] #[], .func (.func 14) #[] #[], .func (.func 12) #[] #[], .func (.func 23) #[] #[]]) (.int .i64 3)).run Tryz.prog W = .ok (.func (.func 23) #[] #[]) W := by kernel_rfl

theorem idf4_3 (W : World) : (Instr.index 75 (.agg #[.func (.func 45) #[] #[], .func (.func 46) #[] #[], .func (.func 47) #[] #[], .func (.func 48) #[] #[]]) (.int .i64 3)).run Tryz.prog W = .ok (.func (.func 48) #[] #[]) W := by kernel_rfl

set_option maxHeartbeats 40000000 in
theorem holds_walk (w : World) (henv : Env2 w) (ax ux ay uy s t : Int) (hx0 : -9223372036854775808 ≤ ax) (hx1 : ax ≤ 9223372036854775807) (hx2 : 0 ≤ ux) (hx3 : ux ≤ 4294967295) (hy0 : -9223372036854775808 ≤ ay) (hy1 : ay ≤ 9223372036854775807) (hy2 : 0 ≤ uy) (hy3 : uy ≤ 4294967295) (hs0 : 0 ≤ s) (hs1' : s ≤ 65535) (ht0' : 0 ≤ t) (ht1' : t ≤ 65535) :
    Calls Tryz.prog 8 #[.agg #[.int .i64 ax, .int .u32 ux], .agg #[.int .i64 ay, .int .u32 uy], .int .u16 s, .int .u16 t] w fun e w' => e = .returned (.bool true) ∧ Below w.heap.size w w' := by
  have hW : Below w.heap.size w ((w.alloc (.cells #[.int .i64 ax, .int .u32 ux] 26)).alloc (.cells #[.int .i64 ay, .int .u32 uy] 26)) := (((Below.refl w.heap.size w).alloc (Nat.le_refl _) _).alloc (by simp <;> omega) _)
  have o1 := heap_more (heap_last w (.cells #[.int .i64 ax, .int .u32 ux] 26)) (.cells #[.int .i64 ay, .int .u32 uy] 26)
  have O1 := Lib.hid o1
  clear o1
  have o2 := heap_last (w.alloc (.cells #[.int .i64 ax, .int .u32 ux] 26)) (.cells #[.int .i64 ay, .int .u32 uy] 26)
  rw [show (w.alloc (.cells #[.int .i64 ax, .int .u32 ux] 26)).heap.size = w.heap.size + 1 by simp] at o2
  have O2 := Lib.hid o2
  clear o2
  have hsz : ((w.alloc (.cells #[.int .i64 ax, .int .u32 ux] 26)).alloc (.cells #[.int .i64 ay, .int .u32 uy] 26)).heap.size = w.heap.size + 1 + 1 := by simp
  have HSZ := Lib.hid hsz
  clear hsz
  have HE := Lib.hid (henv.below hW)
  clear henv
  go_enter Tryz.func8, Tryz.ntmps8
  go_wp2_with fail
  refine (works_any _ HE.out).mono ?_
  rintro e w1 ⟨rfl, hbw⟩
  have hW1 := chain hW hbw
  have OX := Lib.hid (blk_later O1.out hbw)
  have OY := Lib.hid (blk_later O2.out hbw)
  have HE1 := Lib.hid (HE.out.below hbw)
  have HS : Hid (∀ w', Below w1.heap.size w1 w' → w'.cell? ⟨w.heap.size, 0, none⟩ = some (.int .i64 ax) ∧ w'.cell? ⟨w.heap.size, 1, none⟩ = some (.int .u32 ux) ∧ w'.cell? ⟨w.heap.size + 1, 0, none⟩ = some (.int .i64 ay) ∧ w'.cell? ⟨w.heap.size + 1, 1, none⟩ = some (.int .u32 uy)) := fun w' h => ⟨cell_later OX.out h, cell_later OX.out h, cell_later OY.out h, cell_later OY.out h⟩
  go_upto_region 3 with fail
  go_cut [9, 10] (fun p1 p2 wx => ∃ g1 g2 a b c d, p1 = .pointer (some ⟨g1, 0, none⟩) ∧ p2 = .pointer (some ⟨g2, 0, none⟩) ∧ Hid (SmallB a b) ∧ Hid (SmallB c d) ∧ wx.cell? ⟨g1, 0, none⟩ = some (.int .i64 a) ∧ wx.cell? ⟨g1, 1, none⟩ = some (.int .i64 b) ∧ wx.cell? ⟨g2, 0, none⟩ = some (.int .i64 c) ∧ wx.cell? ⟨g2, 1, none⟩ = some (.int .i64 d) ∧ Below w1.heap.size w1 wx)
  case first => as_aux_lemma =>
    go_region_held3 (fun w' => w'.cell? ⟨w.heap.size, 0, none⟩ = some (.int .i64 ax) ∧ w'.cell? ⟨w.heap.size, 1, none⟩ = some (.int .u32 ux) ∧ w'.cell? ⟨w.heap.size + 1, 0, none⟩ = some (.int .i64 ay) ∧ w'.cell? ⟨w.heap.size + 1, 1, none⟩ = some (.int .u32 uy))
      ((refine HS.out _ ?_; repeat (first | with_reducible exact Below.refl _ _ | with_reducible exact hd1 | with_reducible exact hd2 | (with_reducible refine Below.setCell ?_ (by first | omega | (simp <;> omega)) _) | (with_reducible refine Below.alloc ?_ (by first | omega | (simp <;> omega)) _) | with_reducible refine Below.drew ?_)))
      (first
        | (go_at_call 20; (fail_if_success (have hq := hP1)); (refine (small_any _ ax ux hx0 hx1 hx2 hx3).mono ?_); rintro e v1 ⟨a, b, rfl, hP1, hb1⟩; have hcl1 := (bcell hb1).1; have hfr1 := (bcell hb1).2; have hs1 := hb1.size; (try simp at hs1); have hd1 : Below w1.heap.size w1 v1 := (by refine Below.trans ?_ (hb1.mono (by first | omega | (simp <;> omega))); repeat (first | with_reducible exact Below.refl _ _ | with_reducible exact hd1 | with_reducible exact hd2 | (with_reducible refine Below.setCell ?_ (by first | omega | (simp <;> omega)) _) | (with_reducible refine Below.alloc ?_ (by first | omega | (simp <;> omega)) _) | with_reducible refine Below.drew ?_)); (try have ht0 : w1.heap.size < v1.heap.size := by omega); (try have ht1 : w1.heap.size + 1 < v1.heap.size := by omega))
        | (go_at_call 20; (refine (small_any _ ay uy hy0 hy1 hy2 hy3).mono ?_); rintro e v2 ⟨c, d, rfl, hP2, hb2⟩; have hcl2 := (bcell hb2).1; have hfr2 := (bcell hb2).2; have hs2 := hb2.size; (try simp at hs2); have hd2 : Below w1.heap.size w1 v2 := (by refine Below.trans ?_ (hb2.mono (by first | omega | (simp <;> omega))); repeat (first | with_reducible exact Below.refl _ _ | with_reducible exact hd1 | with_reducible exact hd2 | (with_reducible refine Below.setCell ?_ (by first | omega | (simp <;> omega)) _) | (with_reducible refine Below.alloc ?_ (by first | omega | (simp <;> omega)) _) | with_reducible refine Below.drew ?_)); (try have hu0 : v1.heap.size < v2.heap.size := by omega); (try have hu1 : v1.heap.size + 1 < v2.heap.size := by omega); (try have hu2 : w1.heap.size < v2.heap.size := by omega); (try have hu3 : w1.heap.size + 1 < v2.heap.size := by omega); (try have hu4 : w1.heap.size < v1.heap.size + 1 := by omega); (try have hu5 : w1.heap.size + 1 < v1.heap.size + 1 := by omega)))
    all_goals (
      go_wp2_with fail
      go_meet
      refine ⟨_, _, a, b, c, d, rfl, rfl, hP1, hP2, ?_, ?_, ?_, ?_, ?_⟩
      · first | (go_simp; done) | (go_simp; refine World.cell?_setCell_same (u := .int .i64 0) _ _ _ ?_; go_simp; done) | (go_simp; refine (World.cell?_setCell_other _ _ _ _ (by simp <;> omega)).trans ?_; go_simp; done)
      · first | (go_simp; done) | (go_simp; refine World.cell?_setCell_same (u := .int .i64 0) _ _ _ ?_; go_simp; done) | (go_simp; refine (World.cell?_setCell_other _ _ _ _ (by simp <;> omega)).trans ?_; go_simp; done)
      · first | (go_simp; done) | (go_simp; refine World.cell?_setCell_same (u := .int .i64 0) _ _ _ ?_; go_simp; done) | (go_simp; refine (World.cell?_setCell_other _ _ _ _ (by simp <;> omega)).trans ?_; go_simp; done)
      · first | (go_simp; done) | (go_simp; refine World.cell?_setCell_same (u := .int .i64 0) _ _ _ ?_; go_simp; done) | (go_simp; refine (World.cell?_setCell_other _ _ _ _ (by simp <;> omega)).trans ?_; go_simp; done)
      · repeat (first | with_reducible exact Below.refl _ _ | with_reducible exact hd1 | with_reducible exact hd2 | (with_reducible refine Below.setCell ?_ (by first | omega | (simp <;> omega)) _) | (with_reducible refine Below.alloc ?_ (by first | omega | (simp <;> omega)) _) | with_reducible refine Below.drew ?_))
  case rest =>
    obtain ⟨g1, g2, a, b, c, dd, rfl, rfl, HSP, HSQ, z1, z2, z3, z4, hbc⟩ := hcut
    have lg1 := World.block_lt_of_cell? _ _ z1
    have lg2 := World.block_lt_of_cell? _ _ z3
    simp only at lg1 lg2
    obtain ⟨wp, rfl⟩ : ∃ x : World, x = wc := ⟨_, rfl⟩
    have hWP := chain hW1 hbc
    have HE2 := Lib.hid (HE1.out.below hbc)
    clear OX OY HS
    obtain ⟨i, hi, ii⟩ : ∃ i, Hid (a + s % (b - a + 1) = i) ∧ Hid (a ≤ i ∧ i ≤ b) := ⟨_, rfl, by
      have h := HSP.out
      unfold SmallB at h
      have h1 := Int.emod_nonneg s (show b - a + 1 ≠ 0 by omega)
      have h2 := Int.emod_lt_of_pos s (show 0 < b - a + 1 by omega)
      show _ ∧ _
      omega⟩
    obtain ⟨j, hj, jj⟩ : ∃ j, Hid (c + t % (dd - c + 1) = j) ∧ Hid (c ≤ j ∧ j ≤ dd) := ⟨_, rfl, by
      have h := HSQ.out
      unfold SmallB at h
      have h1 := Int.emod_nonneg t (show dd - c + 1 ≠ 0 by omega)
      have h2 := Int.emod_lt_of_pos t (show 0 < dd - c + 1 by omega)
      show _ ∧ _
      omega⟩
    have oi : Hid (SmallI i) := by have h := HSP.out; have h2 := ii.out; unfold SmallB at h; show SmallI i; unfold SmallI; omega
    have oj : Hid (SmallI j) := by have h := HSQ.out; have h2 := jj.out; unfold SmallB at h; show SmallI j; unfold SmallI; omega
    have em1 := Int.emod_nonneg s (show b - a + 1 ≠ 0 by have h := HSP.out; unfold SmallB at h; omega)
    have em2 := Int.emod_nonneg t (show dd - c + 1 ≠ 0 by have h := HSQ.out; unfold SmallB at h; omega)
    have em3 := Int.emod_lt_of_pos s (show 0 < b - a + 1 by have h := HSP.out; unfold SmallB at h; omega)
    have em4 := Int.emod_lt_of_pos t (show 0 < dd - c + 1 by have h := HSQ.out; unfold SmallB at h; omega)
    have sp := HSP.out
    have sq := HSQ.out
    unfold SmallB at sp sq
    obtain ⟨sp1, sp2, sp3⟩ := sp
    obtain ⟨sq1, sq2, sq3⟩ := sq
    obtain ⟨t1, t2, t3⟩ := told_vq (fitsQ_unit oi.out)
    obtain ⟨NU, hNU⟩ : ∃ x, toldS (mkRat i 1000000000000).num = x := ⟨_, rfl⟩
    obtain ⟨DU, hDU⟩ : ∃ x, toldS ((mkRat i 1000000000000).den : Int) = x := ⟨_, rfl⟩
    rw [hNU, hDU] at t1 t3
    have HUT : Hid (Value.tuple #[toldQ (mkRat i (1000000000000 : Int).toNat), .int .i64 (toldQE (mkRat i (1000000000000 : Int).toNat))] = .tuple #[.agg #[.string NU, .string DU], .int .i64 0]) := by show Value.tuple #[toldQ (mkRat i 1000000000000), .int .i64 (toldQE (mkRat i 1000000000000))] = _; rw [t1, t2]
    have HU := Lib.hid t3
    clear t1 t2 t3 hNU hDU
    obtain ⟨t1, t2, t3⟩ := told_vq (fitsQ_unit oj.out)
    obtain ⟨NV, hNV⟩ : ∃ x, toldS (mkRat j 1000000000000).num = x := ⟨_, rfl⟩
    obtain ⟨DV, hDV⟩ : ∃ x, toldS ((mkRat j 1000000000000).den : Int) = x := ⟨_, rfl⟩
    rw [hNV, hDV] at t1 t3
    have HVT : Hid (Value.tuple #[toldQ (mkRat j (1000000000000 : Int).toNat), .int .i64 (toldQE (mkRat j (1000000000000 : Int).toNat))] = .tuple #[.agg #[.string NV, .string DV], .int .i64 0]) := by show Value.tuple #[toldQ (mkRat j 1000000000000), .int .i64 (toldQE (mkRat j 1000000000000))] = _; rw [t1, t2]
    have HV := Lib.hid t3
    clear t1 t2 t3 hNV hDV
    have bi := oi.out
    have bj := oj.out
    unfold SmallI at bi bj
    obtain ⟨bi1, bi2⟩ := bi
    obtain ⟨bj1, bj2⟩ := bj
    have HS2 : Hid (∀ w', Below wp.heap.size wp w' → w'.cell? ⟨g1, 0, none⟩ = some (.int .i64 a) ∧ w'.cell? ⟨g1, 1, none⟩ = some (.int .i64 b) ∧ w'.cell? ⟨g2, 0, none⟩ = some (.int .i64 c) ∧ w'.cell? ⟨g2, 1, none⟩ = some (.int .i64 dd)) := fun w' h => ⟨(h.cell (p := ⟨g1, 0, none⟩) lg1).trans z1, (h.cell (p := ⟨g1, 1, none⟩) lg1).trans z2, (h.cell (p := ⟨g2, 0, none⟩) lg2).trans z3, (h.cell (p := ⟨g2, 1, none⟩) lg2).trans z4⟩
    have hn1 : b - a + 1 ≠ 0 := by omega
    have hn2 : dd - c + 1 ≠ 0 := by omega
    have fl1 : -9223372036854775808 ≤ i := by omega
    have fh1 : i < 9223372036854775808 := by omega
    have fl2 : -9223372036854775808 ≤ j := by omega
    have fh2 : j < 9223372036854775808 := by omega
    have HQ1 : Hid (IntKind.i64.wrap (a + (IntKind.i64.wrap s).tmod (b - a + 1)) = i) := by
      have e1 : IntKind.i64.wrap s = s := IntWalk.i64_in _ (by omega)
      have e2 : s.tmod (b - a + 1) = s % (b - a + 1) := Int.tmod_eq_emod_of_nonneg hs0
      show _ = _
      rw [e1, e2]
      exact (IntWalk.i64_in _ (by omega)).trans hi.out
    have HQ2 : Hid (IntKind.i64.wrap (c + (IntKind.i64.wrap t).tmod (dd - c + 1)) = j) := by
      have e1 : IntKind.i64.wrap t = t := IntWalk.i64_in _ (by omega)
      have e2 : t.tmod (dd - c + 1) = t % (dd - c + 1) := Int.tmod_eq_emod_of_nonneg ht0'
      show _ = _
      rw [e1, e2]
      exact (IntWalk.i64_in _ (by omega)).trans hj.out
    have wr1 : IntKind.i64.wrap (b - a) = b - a := IntWalk.i64_in _ (by omega)
    have wr2 : IntKind.i64.wrap (b - a + 1) = b - a + 1 := IntWalk.i64_in _ (by omega)
    go_upto_region 4 with fail
    go_cut [11] (fun pu wx => ∃ gu, pu = .pointer (some ⟨gu, 0, none⟩) ∧ wx.cell? ⟨gu, 0, none⟩ = some (.string NU) ∧ wx.cell? ⟨gu, 1, none⟩ = some (.string DU) ∧ Below wp.heap.size wp wx)
    case first => as_aux_lemma =>
      go_region_held3 (fun w' => w'.cell? ⟨g1, 0, none⟩ = some (.int .i64 a) ∧ w'.cell? ⟨g1, 1, none⟩ = some (.int .i64 b) ∧ w'.cell? ⟨g2, 0, none⟩ = some (.int .i64 c) ∧ w'.cell? ⟨g2, 1, none⟩ = some (.int .i64 dd))
        ((refine HS2.out _ ?_; repeat (first | with_reducible exact Below.refl _ _ | with_reducible exact hd1 | (with_reducible refine Below.setCell ?_ (by first | omega | (simp <;> omega)) _) | (with_reducible refine Below.alloc ?_ (by first | omega | (simp <;> omega)) _) | with_reducible refine Below.drew ?_)))
        (first
          | (go_at_call 44; rw [HQ1.out]; (refine (fof_any _ ?he i 1000000000000 fl1 fh1 (by decide) (by decide)).mono ?_); (case he => refine HE2.out.toEnv.below ?_; repeat (first | with_reducible exact Below.refl _ _ | with_reducible exact hd1 | (with_reducible refine Below.setCell ?_ (by first | omega | (simp <;> omega)) _) | (with_reducible refine Below.alloc ?_ (by first | omega | (simp <;> omega)) _) | with_reducible refine Below.drew ?_)); rintro e w1 ⟨rfl, hb1⟩; rw [HUT.out]; have hcl1 := (bcell hb1).1; have hfr1 := (bcell hb1).2; have hs1 := hb1.size; (try simp at hs1); (try have hu1 : wp.heap.size < w1.heap.size := by omega); have hd1 : Below wp.heap.size wp w1 := (by refine Below.trans ?_ (hb1.mono (by first | omega | (simp <;> omega))); repeat (first | with_reducible exact Below.refl _ _ | with_reducible exact hd1 | (with_reducible refine Below.setCell ?_ (by first | omega | (simp <;> omega)) _) | (with_reducible refine Below.alloc ?_ (by first | omega | (simp <;> omega)) _) | with_reducible refine Below.drew ?_))))
      all_goals (
        go_wp2_with fail
        go_meet
        refine ⟨_, rfl, ?_, ?_, ?_⟩
        · first | (go_simp; done) | (go_simp; refine World.cell?_setCell_same (u := .string ⟨#[]⟩) _ _ _ ?_; go_simp; done) | (go_simp; refine (World.cell?_setCell_other _ _ _ _ (by simp <;> omega)).trans ?_; go_simp; done)
        · first | (go_simp; done) | (go_simp; refine World.cell?_setCell_same (u := .string ⟨#[]⟩) _ _ _ ?_; go_simp; done) | (go_simp; refine (World.cell?_setCell_other _ _ _ _ (by simp <;> omega)).trans ?_; go_simp; done)
        · repeat (first | with_reducible exact Below.refl _ _ | with_reducible exact hd1 | (with_reducible refine Below.setCell ?_ (by first | omega | (simp <;> omega)) _) | (with_reducible refine Below.alloc ?_ (by first | omega | (simp <;> omega)) _) | with_reducible refine Below.drew ?_))
    case rest =>
      obtain ⟨gu, rfl, u1, u2, hbu⟩ := hcut
      have lgu := World.block_lt_of_cell? _ _ u1
      simp only at lgu
      obtain ⟨wq, rfl⟩ : ∃ x : World, x = wc := ⟨_, rfl⟩
      clear wr1 wr2 hn1 fl1 fh1 em1 em3 HQ1 HUT
      have wr3 : IntKind.i64.wrap (dd - c) = dd - c := IntWalk.i64_in _ (by omega)
      have wr4 : IntKind.i64.wrap (dd - c + 1) = dd - c + 1 := IntWalk.i64_in _ (by omega)
      have HE3 := Lib.hid (HE2.out.below hbu)
      have HS3 : Hid (∀ w', Below wq.heap.size wq w' → w'.cell? ⟨g1, 0, none⟩ = some (.int .i64 a) ∧ w'.cell? ⟨g1, 1, none⟩ = some (.int .i64 b) ∧ w'.cell? ⟨g2, 0, none⟩ = some (.int .i64 c) ∧ w'.cell? ⟨g2, 1, none⟩ = some (.int .i64 dd)) := fun w' h => HS2.out w' (chain hbu h)
      go_upto_region 5 with fail
      go_cut [13] (fun pu wx => ∃ gu, pu = .pointer (some ⟨gu, 0, none⟩) ∧ wx.cell? ⟨gu, 0, none⟩ = some (.string NV) ∧ wx.cell? ⟨gu, 1, none⟩ = some (.string DV) ∧ Below wq.heap.size wq wx)
      case first => as_aux_lemma =>
        go_region_held3 (fun w' => w'.cell? ⟨g1, 0, none⟩ = some (.int .i64 a) ∧ w'.cell? ⟨g1, 1, none⟩ = some (.int .i64 b) ∧ w'.cell? ⟨g2, 0, none⟩ = some (.int .i64 c) ∧ w'.cell? ⟨g2, 1, none⟩ = some (.int .i64 dd))
          ((refine HS3.out _ ?_; repeat (first | with_reducible exact Below.refl _ _ | with_reducible exact hd1 | (with_reducible refine Below.setCell ?_ (by first | omega | (simp <;> omega)) _) | (with_reducible refine Below.alloc ?_ (by first | omega | (simp <;> omega)) _) | with_reducible refine Below.drew ?_)))
          (first
            | (go_at_call 44; rw [HQ2.out]; (refine (fof_any _ ?he j 1000000000000 fl2 fh2 (by decide) (by decide)).mono ?_); (case he => refine HE3.out.toEnv.below ?_; repeat (first | with_reducible exact Below.refl _ _ | with_reducible exact hd1 | (with_reducible refine Below.setCell ?_ (by first | omega | (simp <;> omega)) _) | (with_reducible refine Below.alloc ?_ (by first | omega | (simp <;> omega)) _) | with_reducible refine Below.drew ?_)); rintro e w1 ⟨rfl, hb1⟩; rw [HVT.out]; have hcl1 := (bcell hb1).1; have hfr1 := (bcell hb1).2; have hs1 := hb1.size; (try simp at hs1); (try have hu1 : wq.heap.size < w1.heap.size := by omega); have hd1 : Below wq.heap.size wq w1 := (by refine Below.trans ?_ (hb1.mono (by first | omega | (simp <;> omega))); repeat (first | with_reducible exact Below.refl _ _ | with_reducible exact hd1 | (with_reducible refine Below.setCell ?_ (by first | omega | (simp <;> omega)) _) | (with_reducible refine Below.alloc ?_ (by first | omega | (simp <;> omega)) _) | with_reducible refine Below.drew ?_))))
        all_goals (
          go_wp2_with fail
          go_meet
          refine ⟨_, rfl, ?_, ?_, ?_⟩
          · first | (go_simp; done) | (go_simp; refine World.cell?_setCell_same (u := .string ⟨#[]⟩) _ _ _ ?_; go_simp; done) | (go_simp; refine (World.cell?_setCell_other _ _ _ _ (by simp <;> omega)).trans ?_; go_simp; done)
          · first | (go_simp; done) | (go_simp; refine World.cell?_setCell_same (u := .string ⟨#[]⟩) _ _ _ ?_; go_simp; done) | (go_simp; refine (World.cell?_setCell_other _ _ _ _ (by simp <;> omega)).trans ?_; go_simp; done)
          · repeat (first | with_reducible exact Below.refl _ _ | with_reducible exact hd1 | (with_reducible refine Below.setCell ?_ (by first | omega | (simp <;> omega)) _) | (with_reducible refine Below.alloc ?_ (by first | omega | (simp <;> omega)) _) | with_reducible refine Below.drew ?_))
      case rest =>
        obtain ⟨gv, rfl, v1, v2, hbv⟩ := hcut
        have lgv0 := World.block_lt_of_cell? _ _ v1
        simp only at lgv0
        obtain ⟨we, rfl⟩ : ∃ x : World, x = wc := ⟨_, rfl⟩
        clear wr3 wr4 HQ2 em2 em4 hn2 HVT fl2 fh2 hi hj sp1 sp2 sp3 sq1 sq2 sq3 bi1 bi2 bj1 bj2
        have HE4 := Lib.hid (HE3.out.below hbv)
        have hWE := chain hWP (chain hbu hbv)
        have hE := HS3.out _ hbv
        replace u1 := (hbv.cell (p := ⟨gu, 0, none⟩) lgu).trans u1
        replace u2 := (hbv.cell (p := ⟨gu, 1, none⟩) lgu).trans u2
        replace lgu := Nat.lt_of_lt_of_le lgu hbv.size
        have lgv := lgv0
        clear z1 z2 z3 z4 lg1 lg2 HS2 HS3 HE1 HE2 HE3 lgv0
        obtain ⟨z1, z2, z3, z4⟩ := hE
        have lg1 := World.block_lt_of_cell? _ _ z1
        have lg2 := World.block_lt_of_cell? _ _ z3
        simp only at lg1 lg2
        have HAI : Hid (aroundB (mkRat i 1000000000000) = ⟨i, i, 0⟩) := around_unit oi.out
        have HUI : Hid (-1000000000000000000 ≤ unitsF (mkRat i 1000000000000) ∧ unitsF (mkRat i 1000000000000) ≤ 1000000000000000000 ∧ fits (unitsF (mkRat i 1000000000000)) = true) := by have h := oi.out; show _ ∧ _; rw [unitsF_unit]; refine ⟨?_, ?_, fits_smI h⟩ <;> (unfold SmallI at h; omega)
        have HUJ : Hid (-1000000000000000000 ≤ unitsF (mkRat j 1000000000000) ∧ unitsF (mkRat j 1000000000000) ≤ 1000000000000000000 ∧ fits (unitsF (mkRat j 1000000000000)) = true) := by have h := oj.out; show _ ∧ _; rw [unitsF_unit]; refine ⟨?_, ?_, fits_smI h⟩ <;> (unfold SmallI at h; omega)
        have HAJ : Hid (aroundB (mkRat j 1000000000000) = ⟨j, j, 0⟩) := around_unit oj.out
        go_wp2_with fail
        go_loopw [76] (fun t wr => ∃ k : Int, 0 ≤ k ∧ k ≤ 4 ∧ t = .int .i64 k ∧ Below we.heap.size we wr) (fun t _ => (4 - intOf t).toNat)
        case atStart => exact ⟨0, by omega, by omega, rfl, Below.refl _ _⟩
        case round =>
          obtain ⟨k, hk0, hk1, rfl, hbr⟩ := hrel
          have hk4 : k = 0 ∨ k = 1 ∨ k = 2 ∨ k = 3 ∨ k = 4 := by omega
          clear hk0 hk1
          rcases hk4 with rfl | rfl | rfl | rfl | rfl
          · as_aux_lemma =>
            have hi4 := idx4_0
            have hf4 := idf4_0
            have he := small_add HSP.out HSQ.out
            have HELD := held_add HSP.out.ok HSQ.out.ok ii.out.1 ii.out.2 jj.out.1 jj.out.2 he
            have hee := he
            obtain ⟨he1, hwide, hin, hhas⟩ := HELD
            obtain ⟨rl, rh, hr⟩ := BR.of_e he
            rw [hr] at hin hhas
            obtain ⟨ol, oh, ho⟩ := BR.of_e he1
            rw [ho] at hwide hin
            have hi1 : rl ≤ ol := hin.1
            have hi2 : oh ≤ rh := hin.2
            have hwd : oh - ol ≤ 1 := by simp only at hwide; omega
            have hob := add_e he1
            rw [ho] at hob
            obtain ⟨ob1, ob2, ob3⟩ := (ok_iff ol oh).1 hob
            have hwdb : decide (1 < oh - ol) = false := by rw [decide_eq_false_iff_not]; omega
            clear hob
            have HR := Lib.hid hr
            have HO := Lib.hid ho
            have hft : fitsQ (mkRat i 1000000000000 + mkRat j 1000000000000) = true := fitsQ_add oi.out oj.out
            obtain ⟨t1, t2, t3⟩ := told_vq hft
            obtain ⟨WN, hWN⟩ : ∃ x, toldS (mkRat i 1000000000000 + mkRat j 1000000000000).num = x := ⟨_, rfl⟩
            obtain ⟨WD, hWD⟩ : ∃ x, toldS ((mkRat i 1000000000000 + mkRat j 1000000000000).den : Int) = x := ⟨_, rfl⟩
            rw [hWN, hWD] at t1 t3
            have HT : Hid (Value.tuple #[toldQ (mkRat i 1000000000000 + mkRat j 1000000000000), .int .i64 (toldQE (mkRat i 1000000000000 + mkRat j 1000000000000))] = .tuple #[.agg #[.string WN, .string WD], .int .i64 0]) := by show _ = _; rw [t1, t2]
            have HW := Lib.hid t3
            have HH := Lib.hid hhas
            have HRO : Hid (okB rl rh = true) := by have h := add_e hee; rw [HR.out] at h; exact h
            clear t1 t2 t3 hWN hWD hft hhas hin hr ho hwide he1 he hee
            obtain ⟨w0, rfl⟩ : ∃ x : World, x = wr := ⟨_, rfl⟩
            have hc0 := hbr
            have cp0 := (hbr.cell (p := ⟨g1, 0, none⟩) lg1).trans z1
            have cp1 := (hbr.cell (p := ⟨g1, 1, none⟩) lg1).trans z2
            have lp := World.block_lt_of_cell? _ _ cp0
            have cq0 := (hbr.cell (p := ⟨g2, 0, none⟩) lg2).trans z3
            have cq1 := (hbr.cell (p := ⟨g2, 1, none⟩) lg2).trans z4
            have lq := World.block_lt_of_cell? _ _ cq0
            have cu0 := (hbr.cell (p := ⟨gu, 0, none⟩) lgu).trans u1
            have cu1 := (hbr.cell (p := ⟨gu, 1, none⟩) lgu).trans u2
            have lu := World.block_lt_of_cell? _ _ cu0
            have cv0 := (hbr.cell (p := ⟨gv, 0, none⟩) lgv).trans v1
            have cv1 := (hbr.cell (p := ⟨gv, 1, none⟩) lgv).trans v2
            have lv := World.block_lt_of_cell? _ _ cv0
            go_wp2_with fail
            refine (add_b _ a b c dd).mono ?_
            rintro e w1 ⟨rfl, hb1⟩
            rw [HR.out]
            have hk1 := hb1
            have hc1 := chain hc0 hk1
            have hz1 := hk1.size
            have cp0 := (hk1.cell (p := ⟨g1, 0, none⟩) lp).trans cp0
            have cp1 := (hk1.cell (p := ⟨g1, 1, none⟩) lp).trans cp1
            have lp := Nat.lt_of_lt_of_le lp hk1.size
            have cq0 := (hk1.cell (p := ⟨g2, 0, none⟩) lq).trans cq0
            have cq1 := (hk1.cell (p := ⟨g2, 1, none⟩) lq).trans cq1
            have lq := Nat.lt_of_lt_of_le lq hk1.size
            have cu0 := (hk1.cell (p := ⟨gu, 0, none⟩) lu).trans cu0
            have cu1 := (hk1.cell (p := ⟨gu, 1, none⟩) lu).trans cu1
            have lu := Nat.lt_of_lt_of_le lu hk1.size
            have cv0 := (hk1.cell (p := ⟨gv, 0, none⟩) lv).trans cv0
            have cv1 := (hk1.cell (p := ⟨gv, 1, none⟩) lv).trans cv1
            have lv := Nat.lt_of_lt_of_le lv hk1.size
            have hl2 := heap_last w1 (.cells #[.int .i64 rl, .int .i64 rh] 23)
            have ho2 : Below w1.heap.size w1 (w1.alloc (.cells #[.int .i64 rl, .int .i64 rh] 23)) := (Below.refl _ _).alloc (Nat.le_refl _) (.cells #[.int .i64 rl, .int .i64 rh] 23)
            have HSL2 : Hid (∀ w', Below (w1.alloc (.cells #[.int .i64 rl, .int .i64 rh] 23)).heap.size (w1.alloc (.cells #[.int .i64 rl, .int .i64 rh] 23)) w' → w'.cell? ⟨gu, 0, none⟩ = some (.string NU) ∧ w'.cell? ⟨gu, 1, none⟩ = some (.string DU) ∧ w'.cell? ⟨gv, 0, none⟩ = some (.string NV) ∧ w'.cell? ⟨gv, 1, none⟩ = some (.string DV)) := fun w' h => ⟨((chain ho2 h).cell (p := ⟨gu, 0, none⟩) lu).trans cu0, ((chain ho2 h).cell (p := ⟨gu, 1, none⟩) lu).trans cu1, ((chain ho2 h).cell (p := ⟨gv, 0, none⟩) lv).trans cv0, ((chain ho2 h).cell (p := ⟨gv, 1, none⟩) lv).trans cv1⟩
            go_upto_region 10 with fail
            go_cut [19, 20] (fun pw ef wx => ∃ gw , pw = .pointer (some ⟨gw, 0, none⟩) ∧ ef = .int .i64 0 ∧ wx.cell? ⟨gw, 0, none⟩ = some (.string WN) ∧ wx.cell? ⟨gw, 1, none⟩ = some (.string WD) ∧ Below (w1.alloc (.cells #[.int .i64 rl, .int .i64 rh] 23)).heap.size (w1.alloc (.cells #[.int .i64 rl, .int .i64 rh] 23)) wx)
            case first => as_aux_lemma =>
              (try clear cp0); (try clear cp1); (try clear cq0); (try clear cq1); (try clear cu0); (try clear cu1); (try clear cv0); (try clear cv1); (try clear lp); (try clear lq); (try clear lu); (try clear lv); (try clear z1); (try clear z2); (try clear z3); (try clear z4); (try clear u1); (try clear u2); (try clear v1); (try clear v2); (try clear lg1); (try clear lg2); (try clear lgu); (try clear lgv); (try clear hwd); (try clear hwdb); (try clear ob1); (try clear ob2); (try clear ob3); (try clear hi1); (try clear hi2); (try clear HR); (try clear HO); (try clear HH); (try clear HRO); (try clear HW); (try clear HAI); (try clear HAJ); (try clear HUI); (try clear HUJ); (try clear HSP); (try clear HSQ); (try clear oi); (try clear oj); (try clear ii); (try clear jj); (try clear hbr); (try clear O1); (try clear O2); (try clear HSZ); (try clear hW); (try clear HE); (try clear hW1); (try clear hbw); (try clear hWP); (try clear hWE); (try clear hbc); (try clear hbu); (try clear hbv); (try clear hs0); (try clear hs1'); (try clear ht0'); (try clear ht1'); (try clear hx0); (try clear hx1); (try clear hx2); (try clear hx3); (try clear hy0); (try clear hy1); (try clear hy2); (try clear hy3); (try clear hi4); (try clear hk1); (try clear hz1); (try clear hb1)
              go_region_held3 (fun w' => w'.cell? ⟨gu, 0, none⟩ = some (.string NU) ∧ w'.cell? ⟨gu, 1, none⟩ = some (.string DU) ∧ w'.cell? ⟨gv, 0, none⟩ = some (.string NV) ∧ w'.cell? ⟨gv, 1, none⟩ = some (.string DV))
                ((refine HSL2.out _ ?_; repeat (first | with_reducible exact Below.refl _ _ | with_reducible exact hd1 | (with_reducible refine Below.setCell ?_ (by first | omega | (simp <;> omega)) _) | (with_reducible refine Below.alloc ?_ (by first | omega | (simp <;> omega)) _) | with_reducible refine Below.drew ?_)))
                (first
                  | (go_at_call 45; (refine (fadd_any _ ?he NU DU NV DV _ _ HU.out HV.out).mono ?_); (case he => refine (HE4.out.toEnv.below hc1).below (chain ho2 ?_); repeat (first | with_reducible exact Below.refl _ _ | with_reducible exact hd1 | (with_reducible refine Below.setCell ?_ (by first | omega | (simp <;> omega)) _) | (with_reducible refine Below.alloc ?_ (by first | omega | (simp <;> omega)) _) | with_reducible refine Below.drew ?_)); rintro e v1 ⟨rfl, hb1⟩; rw [HT.out]; have hcl1 := (bcell hb1).1; have hfr1 := (bcell hb1).2; have hs1 := hb1.size; (try simp at hs1); (try have hu1 : w1.heap.size < v1.heap.size := by omega); (try have hu2 : w1.heap.size + 1 < v1.heap.size := by omega); have hd1 : Below (w1.alloc (.cells #[.int .i64 rl, .int .i64 rh] 23)).heap.size (w1.alloc (.cells #[.int .i64 rl, .int .i64 rh] 23)) v1 := (by refine Below.trans ?_ (hb1.mono (by first | omega | (simp <;> omega))); repeat (first | with_reducible exact Below.refl _ _ | with_reducible exact hd1 | (with_reducible refine Below.setCell ?_ (by first | omega | (simp <;> omega)) _) | (with_reducible refine Below.alloc ?_ (by first | omega | (simp <;> omega)) _) | with_reducible refine Below.drew ?_))))
              all_goals (
                go_wp2_with fail
                go_meet
                refine ⟨_, rfl, rfl, ?_, ?_, ?_⟩
                · first | (go_simp; done) | (go_simp; refine World.cell?_setCell_same (u := .string ⟨#[]⟩) _ _ _ ?_; go_simp; done) | (go_simp; refine (World.cell?_setCell_other _ _ _ _ (by simp <;> omega)).trans ?_; go_simp; done)
                · first | (go_simp; done) | (go_simp; refine World.cell?_setCell_same (u := .string ⟨#[]⟩) _ _ _ ?_; go_simp; done) | (go_simp; refine (World.cell?_setCell_other _ _ _ _ (by simp <;> omega)).trans ?_; go_simp; done)
                · repeat (first | with_reducible exact Below.refl _ _ | with_reducible exact hd1 | (with_reducible refine Below.setCell ?_ (by first | omega | (simp <;> omega)) _) | (with_reducible refine Below.alloc ?_ (by first | omega | (simp <;> omega)) _) | with_reducible refine Below.drew ?_))
            case rest =>
              obtain ⟨gw, rfl, rfl, cw0, cw1, hb2⟩ := hcut
              obtain ⟨w2, rfl⟩ : ∃ x : World, x = wc := ⟨_, rfl⟩
              have hk2 : Below w1.heap.size w1 w2 := chain ho2 hb2
              have hc2 := chain hc1 hk2
              have hz2 := hk2.size
              have cp0 := (hk2.cell (p := ⟨g1, 0, none⟩) lp).trans cp0
              have cp1 := (hk2.cell (p := ⟨g1, 1, none⟩) lp).trans cp1
              have lp := Nat.lt_of_lt_of_le lp hk2.size
              have cq0 := (hk2.cell (p := ⟨g2, 0, none⟩) lq).trans cq0
              have cq1 := (hk2.cell (p := ⟨g2, 1, none⟩) lq).trans cq1
              have lq := Nat.lt_of_lt_of_le lq hk2.size
              have cu0 := (hk2.cell (p := ⟨gu, 0, none⟩) lu).trans cu0
              have cu1 := (hk2.cell (p := ⟨gu, 1, none⟩) lu).trans cu1
              have lu := Nat.lt_of_lt_of_le lu hk2.size
              have cv0 := (hk2.cell (p := ⟨gv, 0, none⟩) lv).trans cv0
              have cv1 := (hk2.cell (p := ⟨gv, 1, none⟩) lv).trans cv1
              have lv := Nat.lt_of_lt_of_le lv hk2.size
              have cr0 : w2.cell? ⟨w1.heap.size, 0, none⟩ = some (.int .i64 rl) := cell_later hl2 hb2
              have cr1 : w2.cell? ⟨w1.heap.size, 1, none⟩ = some (.int .i64 rh) := cell_later hl2 hb2
              have lr := World.block_lt_of_cell? _ _ cr0
              clear hl2
              have lw := World.block_lt_of_cell? _ _ cw0
              go_wp2_with fail
              refine (has_any _ (HE4.out.below hc2) rl rh WN WD _ HW.out HRO.out).mono ?_
              rintro e w3 ⟨rfl, hb3⟩
              rw [HH.out]
              have hk3 := hb3
              have hc3 := chain hc2 hk3
              have hz3 := hk3.size
              have cp0 := (hk3.cell (p := ⟨g1, 0, none⟩) lp).trans cp0
              have cp1 := (hk3.cell (p := ⟨g1, 1, none⟩) lp).trans cp1
              have lp := Nat.lt_of_lt_of_le lp hk3.size
              have cq0 := (hk3.cell (p := ⟨g2, 0, none⟩) lq).trans cq0
              have cq1 := (hk3.cell (p := ⟨g2, 1, none⟩) lq).trans cq1
              have lq := Nat.lt_of_lt_of_le lq hk3.size
              have cu0 := (hk3.cell (p := ⟨gu, 0, none⟩) lu).trans cu0
              have cu1 := (hk3.cell (p := ⟨gu, 1, none⟩) lu).trans cu1
              have lu := Nat.lt_of_lt_of_le lu hk3.size
              have cv0 := (hk3.cell (p := ⟨gv, 0, none⟩) lv).trans cv0
              have cv1 := (hk3.cell (p := ⟨gv, 1, none⟩) lv).trans cv1
              have lv := Nat.lt_of_lt_of_le lv hk3.size
              have cr0 := (hk3.cell (p := ⟨w1.heap.size, 0, none⟩) lr).trans cr0
              have cr1 := (hk3.cell (p := ⟨w1.heap.size, 1, none⟩) lr).trans cr1
              have lr := Nat.lt_of_lt_of_le lr hk3.size
              have cw0 := (hk3.cell (p := ⟨gw, 0, none⟩) lw).trans cw0
              have cw1 := (hk3.cell (p := ⟨gw, 1, none⟩) lw).trans cw1
              have lw := Nat.lt_of_lt_of_le lw hk3.size
              go_wp2_with fail
              refine (around_in _ (HE4.out.below hc3) NU DU _ HU.out HUI.out.1 HUI.out.2.1 HUI.out.2.2).mono ?_
              rintro e w4 ⟨rfl, hb4⟩
              rw [HAI.out]
              have hk4 := hb4
              have hc4 := chain hc3 hk4
              have hz4 := hk4.size
              clear cp0 cp1 lp
              clear cq0 cq1 lq
              have cu0 := (hk4.cell (p := ⟨gu, 0, none⟩) lu).trans cu0
              have cu1 := (hk4.cell (p := ⟨gu, 1, none⟩) lu).trans cu1
              have lu := Nat.lt_of_lt_of_le lu hk4.size
              have cv0 := (hk4.cell (p := ⟨gv, 0, none⟩) lv).trans cv0
              have cv1 := (hk4.cell (p := ⟨gv, 1, none⟩) lv).trans cv1
              have lv := Nat.lt_of_lt_of_le lv hk4.size
              have cr0 := (hk4.cell (p := ⟨w1.heap.size, 0, none⟩) lr).trans cr0
              have cr1 := (hk4.cell (p := ⟨w1.heap.size, 1, none⟩) lr).trans cr1
              have lr := Nat.lt_of_lt_of_le lr hk4.size
              clear cw0 cw1 lw
              go_wp2_with fail
              refine (around_in _ (HE4.out.below (chain hc4 ((Below.refl _ _).alloc (Nat.le_refl _) _))) NV DV _ HV.out HUJ.out.1 HUJ.out.2.1 HUJ.out.2.2).mono ?_
              rintro e w5 ⟨rfl, hb5⟩
              rw [HAJ.out]
              have hl5 := heap_last w4 (.cells #[.int .i64 i, .int .i64 i] 23)
              have hk5 : Below w4.heap.size w4 w5 := chain ((Below.refl _ _).alloc (Nat.le_refl _) (.cells #[.int .i64 i, .int .i64 i] 23)) hb5
              have hc5 := chain hc4 hk5
              have hz5 := hk5.size
              have hq5 := hb5.size
              simp at hq5
              have cu0 := (hk5.cell (p := ⟨gu, 0, none⟩) lu).trans cu0
              have cu1 := (hk5.cell (p := ⟨gu, 1, none⟩) lu).trans cu1
              have lu := Nat.lt_of_lt_of_le lu hk5.size
              have cv0 := (hk5.cell (p := ⟨gv, 0, none⟩) lv).trans cv0
              have cv1 := (hk5.cell (p := ⟨gv, 1, none⟩) lv).trans cv1
              have lv := Nat.lt_of_lt_of_le lv hk5.size
              have cr0 := (hk5.cell (p := ⟨w1.heap.size, 0, none⟩) lr).trans cr0
              have cr1 := (hk5.cell (p := ⟨w1.heap.size, 1, none⟩) lr).trans cr1
              have lr := Nat.lt_of_lt_of_le lr hk5.size
              have cx0 : w5.cell? ⟨w4.heap.size, 0, none⟩ = some (.int .i64 i) := cell_later hl5 hb5
              have cx1 : w5.cell? ⟨w4.heap.size, 1, none⟩ = some (.int .i64 i) := cell_later hl5 hb5
              have lx := World.block_lt_of_cell? _ _ cx0
              clear hl5
              go_wp2_with fail
              refine (add_b _ i i j j).mono ?_
              rintro e w6 ⟨rfl, hb6⟩
              rw [HO.out]
              have hl6 := heap_last w5 (.cells #[.int .i64 j, .int .i64 j] 23)
              have hk6 : Below w5.heap.size w5 w6 := chain ((Below.refl _ _).alloc (Nat.le_refl _) (.cells #[.int .i64 j, .int .i64 j] 23)) hb6
              have hc6 := chain hc5 hk6
              have hz6 := hk6.size
              have hq6 := hb6.size
              simp at hq6
              clear cu0 cu1 lu
              clear cv0 cv1 lv
              have cr0 := (hk6.cell (p := ⟨w1.heap.size, 0, none⟩) lr).trans cr0
              have cr1 := (hk6.cell (p := ⟨w1.heap.size, 1, none⟩) lr).trans cr1
              have lr := Nat.lt_of_lt_of_le lr hk6.size
              have cx0 := (hk6.cell (p := ⟨w4.heap.size, 0, none⟩) lx).trans cx0
              have cx1 := (hk6.cell (p := ⟨w4.heap.size, 1, none⟩) lx).trans cx1
              have lx := Nat.lt_of_lt_of_le lx hk6.size
              have cy0 : w6.cell? ⟨w5.heap.size, 0, none⟩ = some (.int .i64 j) := cell_later hl6 hb6
              have cy1 : w6.cell? ⟨w5.heap.size, 1, none⟩ = some (.int .i64 j) := cell_later hl6 hb6
              have ly := World.block_lt_of_cell? _ _ cy0
              clear hl6
              go_wp2_with fail
              refine (inside_ok _ _ _ _ _ hi1 hi2).mono ?_
              rintro e w7 ⟨rfl, hb7⟩
              have hl7 := heap_last w6 (.cells #[.int .i64 ol, .int .i64 oh] 23)
              have hk7 : Below w6.heap.size w6 w7 := chain ((Below.refl _ _).alloc (Nat.le_refl _) (.cells #[.int .i64 ol, .int .i64 oh] 23)) hb7
              have hc7 := chain hc6 hk7
              have hz7 := hk7.size
              have hq7 := hb7.size
              simp at hq7
              have cr0 := (hk7.cell (p := ⟨w1.heap.size, 0, none⟩) lr).trans cr0
              have cr1 := (hk7.cell (p := ⟨w1.heap.size, 1, none⟩) lr).trans cr1
              have lr := Nat.lt_of_lt_of_le lr hk7.size
              have cx0 := (hk7.cell (p := ⟨w4.heap.size, 0, none⟩) lx).trans cx0
              have cx1 := (hk7.cell (p := ⟨w4.heap.size, 1, none⟩) lx).trans cx1
              have lx := Nat.lt_of_lt_of_le lx hk7.size
              have cy0 := (hk7.cell (p := ⟨w5.heap.size, 0, none⟩) ly).trans cy0
              have cy1 := (hk7.cell (p := ⟨w5.heap.size, 1, none⟩) ly).trans cy1
              have ly := Nat.lt_of_lt_of_le ly hk7.size
              have co0 : w7.cell? ⟨w6.heap.size, 0, none⟩ = some (.int .i64 ol) := cell_later hl7 hb7
              have co1 : w7.cell? ⟨w6.heap.size, 1, none⟩ = some (.int .i64 oh) := cell_later hl7 hb7
              have lo := World.block_lt_of_cell? _ _ co0
              clear hl7
              go_wp2_with fail
              go_roundw
              case rel => exact ⟨1, by omega, by omega, (by first | rfl | go_num), hc7⟩
              case measure => first | (simp [intOf]; done) | (simp [intOf] <;> omega) | decide
          · as_aux_lemma =>
            have hi4 := idx4_1
            have hf4 := idf4_1
            have he := small_sub HSP.out HSQ.out
            have HELD := held_sub HSP.out.ok HSQ.out.ok ii.out.1 ii.out.2 jj.out.1 jj.out.2 he
            have hee := he
            obtain ⟨he1, hwide, hin, hhas⟩ := HELD
            obtain ⟨rl, rh, hr⟩ := BR.of_e he
            rw [hr] at hin hhas
            obtain ⟨ol, oh, ho⟩ := BR.of_e he1
            rw [ho] at hwide hin
            have hi1 : rl ≤ ol := hin.1
            have hi2 : oh ≤ rh := hin.2
            have hwd : oh - ol ≤ 1 := by simp only at hwide; omega
            have hob := sub_e he1
            rw [ho] at hob
            obtain ⟨ob1, ob2, ob3⟩ := (ok_iff ol oh).1 hob
            have hwdb : decide (1 < oh - ol) = false := by rw [decide_eq_false_iff_not]; omega
            clear hob
            have HR := Lib.hid hr
            have HO := Lib.hid ho
            have hft : fitsQ (mkRat i 1000000000000 - mkRat j 1000000000000) = true := fitsQ_sub oi.out oj.out
            obtain ⟨t1, t2, t3⟩ := told_vq hft
            obtain ⟨WN, hWN⟩ : ∃ x, toldS (mkRat i 1000000000000 - mkRat j 1000000000000).num = x := ⟨_, rfl⟩
            obtain ⟨WD, hWD⟩ : ∃ x, toldS ((mkRat i 1000000000000 - mkRat j 1000000000000).den : Int) = x := ⟨_, rfl⟩
            rw [hWN, hWD] at t1 t3
            have HT : Hid (Value.tuple #[toldQ (mkRat i 1000000000000 - mkRat j 1000000000000), .int .i64 (toldQE (mkRat i 1000000000000 - mkRat j 1000000000000))] = .tuple #[.agg #[.string WN, .string WD], .int .i64 0]) := by show _ = _; rw [t1, t2]
            have HW := Lib.hid t3
            have HH := Lib.hid hhas
            have HRO : Hid (okB rl rh = true) := by have h := sub_e hee; rw [HR.out] at h; exact h
            clear t1 t2 t3 hWN hWD hft hhas hin hr ho hwide he1 he hee
            obtain ⟨w0, rfl⟩ : ∃ x : World, x = wr := ⟨_, rfl⟩
            have hc0 := hbr
            have cp0 := (hbr.cell (p := ⟨g1, 0, none⟩) lg1).trans z1
            have cp1 := (hbr.cell (p := ⟨g1, 1, none⟩) lg1).trans z2
            have lp := World.block_lt_of_cell? _ _ cp0
            have cq0 := (hbr.cell (p := ⟨g2, 0, none⟩) lg2).trans z3
            have cq1 := (hbr.cell (p := ⟨g2, 1, none⟩) lg2).trans z4
            have lq := World.block_lt_of_cell? _ _ cq0
            have cu0 := (hbr.cell (p := ⟨gu, 0, none⟩) lgu).trans u1
            have cu1 := (hbr.cell (p := ⟨gu, 1, none⟩) lgu).trans u2
            have lu := World.block_lt_of_cell? _ _ cu0
            have cv0 := (hbr.cell (p := ⟨gv, 0, none⟩) lgv).trans v1
            have cv1 := (hbr.cell (p := ⟨gv, 1, none⟩) lgv).trans v2
            have lv := World.block_lt_of_cell? _ _ cv0
            go_wp2_with fail
            refine (sub_c _ a b c dd).mono ?_
            rintro e w1 ⟨rfl, hb1⟩
            rw [HR.out]
            have hk1 := hb1
            have hc1 := chain hc0 hk1
            have hz1 := hk1.size
            have cp0 := (hk1.cell (p := ⟨g1, 0, none⟩) lp).trans cp0
            have cp1 := (hk1.cell (p := ⟨g1, 1, none⟩) lp).trans cp1
            have lp := Nat.lt_of_lt_of_le lp hk1.size
            have cq0 := (hk1.cell (p := ⟨g2, 0, none⟩) lq).trans cq0
            have cq1 := (hk1.cell (p := ⟨g2, 1, none⟩) lq).trans cq1
            have lq := Nat.lt_of_lt_of_le lq hk1.size
            have cu0 := (hk1.cell (p := ⟨gu, 0, none⟩) lu).trans cu0
            have cu1 := (hk1.cell (p := ⟨gu, 1, none⟩) lu).trans cu1
            have lu := Nat.lt_of_lt_of_le lu hk1.size
            have cv0 := (hk1.cell (p := ⟨gv, 0, none⟩) lv).trans cv0
            have cv1 := (hk1.cell (p := ⟨gv, 1, none⟩) lv).trans cv1
            have lv := Nat.lt_of_lt_of_le lv hk1.size
            have hl2 := heap_last w1 (.cells #[.int .i64 rl, .int .i64 rh] 23)
            have ho2 : Below w1.heap.size w1 (w1.alloc (.cells #[.int .i64 rl, .int .i64 rh] 23)) := (Below.refl _ _).alloc (Nat.le_refl _) (.cells #[.int .i64 rl, .int .i64 rh] 23)
            have HSL2 : Hid (∀ w', Below (w1.alloc (.cells #[.int .i64 rl, .int .i64 rh] 23)).heap.size (w1.alloc (.cells #[.int .i64 rl, .int .i64 rh] 23)) w' → w'.cell? ⟨gu, 0, none⟩ = some (.string NU) ∧ w'.cell? ⟨gu, 1, none⟩ = some (.string DU) ∧ w'.cell? ⟨gv, 0, none⟩ = some (.string NV) ∧ w'.cell? ⟨gv, 1, none⟩ = some (.string DV)) := fun w' h => ⟨((chain ho2 h).cell (p := ⟨gu, 0, none⟩) lu).trans cu0, ((chain ho2 h).cell (p := ⟨gu, 1, none⟩) lu).trans cu1, ((chain ho2 h).cell (p := ⟨gv, 0, none⟩) lv).trans cv0, ((chain ho2 h).cell (p := ⟨gv, 1, none⟩) lv).trans cv1⟩
            go_upto_region 10 with fail
            go_cut [19, 20] (fun pw ef wx => ∃ gw , pw = .pointer (some ⟨gw, 0, none⟩) ∧ ef = .int .i64 0 ∧ wx.cell? ⟨gw, 0, none⟩ = some (.string WN) ∧ wx.cell? ⟨gw, 1, none⟩ = some (.string WD) ∧ Below (w1.alloc (.cells #[.int .i64 rl, .int .i64 rh] 23)).heap.size (w1.alloc (.cells #[.int .i64 rl, .int .i64 rh] 23)) wx)
            case first => as_aux_lemma =>
              (try clear cp0); (try clear cp1); (try clear cq0); (try clear cq1); (try clear cu0); (try clear cu1); (try clear cv0); (try clear cv1); (try clear lp); (try clear lq); (try clear lu); (try clear lv); (try clear z1); (try clear z2); (try clear z3); (try clear z4); (try clear u1); (try clear u2); (try clear v1); (try clear v2); (try clear lg1); (try clear lg2); (try clear lgu); (try clear lgv); (try clear hwd); (try clear hwdb); (try clear ob1); (try clear ob2); (try clear ob3); (try clear hi1); (try clear hi2); (try clear HR); (try clear HO); (try clear HH); (try clear HRO); (try clear HW); (try clear HAI); (try clear HAJ); (try clear HUI); (try clear HUJ); (try clear HSP); (try clear HSQ); (try clear oi); (try clear oj); (try clear ii); (try clear jj); (try clear hbr); (try clear O1); (try clear O2); (try clear HSZ); (try clear hW); (try clear HE); (try clear hW1); (try clear hbw); (try clear hWP); (try clear hWE); (try clear hbc); (try clear hbu); (try clear hbv); (try clear hs0); (try clear hs1'); (try clear ht0'); (try clear ht1'); (try clear hx0); (try clear hx1); (try clear hx2); (try clear hx3); (try clear hy0); (try clear hy1); (try clear hy2); (try clear hy3); (try clear hi4); (try clear hk1); (try clear hz1); (try clear hb1)
              go_region_held3 (fun w' => w'.cell? ⟨gu, 0, none⟩ = some (.string NU) ∧ w'.cell? ⟨gu, 1, none⟩ = some (.string DU) ∧ w'.cell? ⟨gv, 0, none⟩ = some (.string NV) ∧ w'.cell? ⟨gv, 1, none⟩ = some (.string DV))
                ((refine HSL2.out _ ?_; repeat (first | with_reducible exact Below.refl _ _ | with_reducible exact hd1 | (with_reducible refine Below.setCell ?_ (by first | omega | (simp <;> omega)) _) | (with_reducible refine Below.alloc ?_ (by first | omega | (simp <;> omega)) _) | with_reducible refine Below.drew ?_)))
                (first
                  | (go_at_call 46; (refine (fsub_any _ ?he NU DU NV DV _ _ HU.out HV.out).mono ?_); (case he => refine (HE4.out.toEnv.below hc1).below (chain ho2 ?_); repeat (first | with_reducible exact Below.refl _ _ | with_reducible exact hd1 | (with_reducible refine Below.setCell ?_ (by first | omega | (simp <;> omega)) _) | (with_reducible refine Below.alloc ?_ (by first | omega | (simp <;> omega)) _) | with_reducible refine Below.drew ?_)); rintro e v1 ⟨rfl, hb1⟩; rw [HT.out]; have hcl1 := (bcell hb1).1; have hfr1 := (bcell hb1).2; have hs1 := hb1.size; (try simp at hs1); (try have hu1 : w1.heap.size < v1.heap.size := by omega); (try have hu2 : w1.heap.size + 1 < v1.heap.size := by omega); have hd1 : Below (w1.alloc (.cells #[.int .i64 rl, .int .i64 rh] 23)).heap.size (w1.alloc (.cells #[.int .i64 rl, .int .i64 rh] 23)) v1 := (by refine Below.trans ?_ (hb1.mono (by first | omega | (simp <;> omega))); repeat (first | with_reducible exact Below.refl _ _ | with_reducible exact hd1 | (with_reducible refine Below.setCell ?_ (by first | omega | (simp <;> omega)) _) | (with_reducible refine Below.alloc ?_ (by first | omega | (simp <;> omega)) _) | with_reducible refine Below.drew ?_))))
              all_goals (
                go_wp2_with fail
                go_meet
                refine ⟨_, rfl, rfl, ?_, ?_, ?_⟩
                · first | (go_simp; done) | (go_simp; refine World.cell?_setCell_same (u := .string ⟨#[]⟩) _ _ _ ?_; go_simp; done) | (go_simp; refine (World.cell?_setCell_other _ _ _ _ (by simp <;> omega)).trans ?_; go_simp; done)
                · first | (go_simp; done) | (go_simp; refine World.cell?_setCell_same (u := .string ⟨#[]⟩) _ _ _ ?_; go_simp; done) | (go_simp; refine (World.cell?_setCell_other _ _ _ _ (by simp <;> omega)).trans ?_; go_simp; done)
                · repeat (first | with_reducible exact Below.refl _ _ | with_reducible exact hd1 | (with_reducible refine Below.setCell ?_ (by first | omega | (simp <;> omega)) _) | (with_reducible refine Below.alloc ?_ (by first | omega | (simp <;> omega)) _) | with_reducible refine Below.drew ?_))
            case rest =>
              obtain ⟨gw, rfl, rfl, cw0, cw1, hb2⟩ := hcut
              obtain ⟨w2, rfl⟩ : ∃ x : World, x = wc := ⟨_, rfl⟩
              have hk2 : Below w1.heap.size w1 w2 := chain ho2 hb2
              have hc2 := chain hc1 hk2
              have hz2 := hk2.size
              have cp0 := (hk2.cell (p := ⟨g1, 0, none⟩) lp).trans cp0
              have cp1 := (hk2.cell (p := ⟨g1, 1, none⟩) lp).trans cp1
              have lp := Nat.lt_of_lt_of_le lp hk2.size
              have cq0 := (hk2.cell (p := ⟨g2, 0, none⟩) lq).trans cq0
              have cq1 := (hk2.cell (p := ⟨g2, 1, none⟩) lq).trans cq1
              have lq := Nat.lt_of_lt_of_le lq hk2.size
              have cu0 := (hk2.cell (p := ⟨gu, 0, none⟩) lu).trans cu0
              have cu1 := (hk2.cell (p := ⟨gu, 1, none⟩) lu).trans cu1
              have lu := Nat.lt_of_lt_of_le lu hk2.size
              have cv0 := (hk2.cell (p := ⟨gv, 0, none⟩) lv).trans cv0
              have cv1 := (hk2.cell (p := ⟨gv, 1, none⟩) lv).trans cv1
              have lv := Nat.lt_of_lt_of_le lv hk2.size
              have cr0 : w2.cell? ⟨w1.heap.size, 0, none⟩ = some (.int .i64 rl) := cell_later hl2 hb2
              have cr1 : w2.cell? ⟨w1.heap.size, 1, none⟩ = some (.int .i64 rh) := cell_later hl2 hb2
              have lr := World.block_lt_of_cell? _ _ cr0
              clear hl2
              have lw := World.block_lt_of_cell? _ _ cw0
              go_wp2_with fail
              refine (has_any _ (HE4.out.below hc2) rl rh WN WD _ HW.out HRO.out).mono ?_
              rintro e w3 ⟨rfl, hb3⟩
              rw [HH.out]
              have hk3 := hb3
              have hc3 := chain hc2 hk3
              have hz3 := hk3.size
              have cp0 := (hk3.cell (p := ⟨g1, 0, none⟩) lp).trans cp0
              have cp1 := (hk3.cell (p := ⟨g1, 1, none⟩) lp).trans cp1
              have lp := Nat.lt_of_lt_of_le lp hk3.size
              have cq0 := (hk3.cell (p := ⟨g2, 0, none⟩) lq).trans cq0
              have cq1 := (hk3.cell (p := ⟨g2, 1, none⟩) lq).trans cq1
              have lq := Nat.lt_of_lt_of_le lq hk3.size
              have cu0 := (hk3.cell (p := ⟨gu, 0, none⟩) lu).trans cu0
              have cu1 := (hk3.cell (p := ⟨gu, 1, none⟩) lu).trans cu1
              have lu := Nat.lt_of_lt_of_le lu hk3.size
              have cv0 := (hk3.cell (p := ⟨gv, 0, none⟩) lv).trans cv0
              have cv1 := (hk3.cell (p := ⟨gv, 1, none⟩) lv).trans cv1
              have lv := Nat.lt_of_lt_of_le lv hk3.size
              have cr0 := (hk3.cell (p := ⟨w1.heap.size, 0, none⟩) lr).trans cr0
              have cr1 := (hk3.cell (p := ⟨w1.heap.size, 1, none⟩) lr).trans cr1
              have lr := Nat.lt_of_lt_of_le lr hk3.size
              have cw0 := (hk3.cell (p := ⟨gw, 0, none⟩) lw).trans cw0
              have cw1 := (hk3.cell (p := ⟨gw, 1, none⟩) lw).trans cw1
              have lw := Nat.lt_of_lt_of_le lw hk3.size
              go_wp2_with fail
              refine (around_in _ (HE4.out.below hc3) NU DU _ HU.out HUI.out.1 HUI.out.2.1 HUI.out.2.2).mono ?_
              rintro e w4 ⟨rfl, hb4⟩
              rw [HAI.out]
              have hk4 := hb4
              have hc4 := chain hc3 hk4
              have hz4 := hk4.size
              clear cp0 cp1 lp
              clear cq0 cq1 lq
              have cu0 := (hk4.cell (p := ⟨gu, 0, none⟩) lu).trans cu0
              have cu1 := (hk4.cell (p := ⟨gu, 1, none⟩) lu).trans cu1
              have lu := Nat.lt_of_lt_of_le lu hk4.size
              have cv0 := (hk4.cell (p := ⟨gv, 0, none⟩) lv).trans cv0
              have cv1 := (hk4.cell (p := ⟨gv, 1, none⟩) lv).trans cv1
              have lv := Nat.lt_of_lt_of_le lv hk4.size
              have cr0 := (hk4.cell (p := ⟨w1.heap.size, 0, none⟩) lr).trans cr0
              have cr1 := (hk4.cell (p := ⟨w1.heap.size, 1, none⟩) lr).trans cr1
              have lr := Nat.lt_of_lt_of_le lr hk4.size
              clear cw0 cw1 lw
              go_wp2_with fail
              refine (around_in _ (HE4.out.below (chain hc4 ((Below.refl _ _).alloc (Nat.le_refl _) _))) NV DV _ HV.out HUJ.out.1 HUJ.out.2.1 HUJ.out.2.2).mono ?_
              rintro e w5 ⟨rfl, hb5⟩
              rw [HAJ.out]
              have hl5 := heap_last w4 (.cells #[.int .i64 i, .int .i64 i] 23)
              have hk5 : Below w4.heap.size w4 w5 := chain ((Below.refl _ _).alloc (Nat.le_refl _) (.cells #[.int .i64 i, .int .i64 i] 23)) hb5
              have hc5 := chain hc4 hk5
              have hz5 := hk5.size
              have hq5 := hb5.size
              simp at hq5
              have cu0 := (hk5.cell (p := ⟨gu, 0, none⟩) lu).trans cu0
              have cu1 := (hk5.cell (p := ⟨gu, 1, none⟩) lu).trans cu1
              have lu := Nat.lt_of_lt_of_le lu hk5.size
              have cv0 := (hk5.cell (p := ⟨gv, 0, none⟩) lv).trans cv0
              have cv1 := (hk5.cell (p := ⟨gv, 1, none⟩) lv).trans cv1
              have lv := Nat.lt_of_lt_of_le lv hk5.size
              have cr0 := (hk5.cell (p := ⟨w1.heap.size, 0, none⟩) lr).trans cr0
              have cr1 := (hk5.cell (p := ⟨w1.heap.size, 1, none⟩) lr).trans cr1
              have lr := Nat.lt_of_lt_of_le lr hk5.size
              have cx0 : w5.cell? ⟨w4.heap.size, 0, none⟩ = some (.int .i64 i) := cell_later hl5 hb5
              have cx1 : w5.cell? ⟨w4.heap.size, 1, none⟩ = some (.int .i64 i) := cell_later hl5 hb5
              have lx := World.block_lt_of_cell? _ _ cx0
              clear hl5
              go_wp2_with fail
              refine (sub_c _ i i j j).mono ?_
              rintro e w6 ⟨rfl, hb6⟩
              rw [HO.out]
              have hl6 := heap_last w5 (.cells #[.int .i64 j, .int .i64 j] 23)
              have hk6 : Below w5.heap.size w5 w6 := chain ((Below.refl _ _).alloc (Nat.le_refl _) (.cells #[.int .i64 j, .int .i64 j] 23)) hb6
              have hc6 := chain hc5 hk6
              have hz6 := hk6.size
              have hq6 := hb6.size
              simp at hq6
              clear cu0 cu1 lu
              clear cv0 cv1 lv
              have cr0 := (hk6.cell (p := ⟨w1.heap.size, 0, none⟩) lr).trans cr0
              have cr1 := (hk6.cell (p := ⟨w1.heap.size, 1, none⟩) lr).trans cr1
              have lr := Nat.lt_of_lt_of_le lr hk6.size
              have cx0 := (hk6.cell (p := ⟨w4.heap.size, 0, none⟩) lx).trans cx0
              have cx1 := (hk6.cell (p := ⟨w4.heap.size, 1, none⟩) lx).trans cx1
              have lx := Nat.lt_of_lt_of_le lx hk6.size
              have cy0 : w6.cell? ⟨w5.heap.size, 0, none⟩ = some (.int .i64 j) := cell_later hl6 hb6
              have cy1 : w6.cell? ⟨w5.heap.size, 1, none⟩ = some (.int .i64 j) := cell_later hl6 hb6
              have ly := World.block_lt_of_cell? _ _ cy0
              clear hl6
              go_wp2_with fail
              refine (inside_ok _ _ _ _ _ hi1 hi2).mono ?_
              rintro e w7 ⟨rfl, hb7⟩
              have hl7 := heap_last w6 (.cells #[.int .i64 ol, .int .i64 oh] 23)
              have hk7 : Below w6.heap.size w6 w7 := chain ((Below.refl _ _).alloc (Nat.le_refl _) (.cells #[.int .i64 ol, .int .i64 oh] 23)) hb7
              have hc7 := chain hc6 hk7
              have hz7 := hk7.size
              have hq7 := hb7.size
              simp at hq7
              have cr0 := (hk7.cell (p := ⟨w1.heap.size, 0, none⟩) lr).trans cr0
              have cr1 := (hk7.cell (p := ⟨w1.heap.size, 1, none⟩) lr).trans cr1
              have lr := Nat.lt_of_lt_of_le lr hk7.size
              have cx0 := (hk7.cell (p := ⟨w4.heap.size, 0, none⟩) lx).trans cx0
              have cx1 := (hk7.cell (p := ⟨w4.heap.size, 1, none⟩) lx).trans cx1
              have lx := Nat.lt_of_lt_of_le lx hk7.size
              have cy0 := (hk7.cell (p := ⟨w5.heap.size, 0, none⟩) ly).trans cy0
              have cy1 := (hk7.cell (p := ⟨w5.heap.size, 1, none⟩) ly).trans cy1
              have ly := Nat.lt_of_lt_of_le ly hk7.size
              have co0 : w7.cell? ⟨w6.heap.size, 0, none⟩ = some (.int .i64 ol) := cell_later hl7 hb7
              have co1 : w7.cell? ⟨w6.heap.size, 1, none⟩ = some (.int .i64 oh) := cell_later hl7 hb7
              have lo := World.block_lt_of_cell? _ _ co0
              clear hl7
              go_wp2_with fail
              go_roundw
              case rel => exact ⟨2, by omega, by omega, (by first | rfl | go_num), hc7⟩
              case measure => first | (simp [intOf]; done) | (simp [intOf] <;> omega) | decide
          · as_aux_lemma =>
            have hi4 := idx4_2
            have hf4 := idf4_2
            have he := small_mul HSP.out HSQ.out
            have HELD := held_mul HSP.out.ok HSQ.out.ok ii.out.1 ii.out.2 jj.out.1 jj.out.2 he
            have hee := he
            obtain ⟨he1, hwide, hin, hhas⟩ := HELD
            obtain ⟨rl, rh, hr⟩ := BR.of_e he
            rw [hr] at hin hhas
            obtain ⟨ol, oh, ho⟩ := BR.of_e he1
            rw [ho] at hwide hin
            have hi1 : rl ≤ ol := hin.1
            have hi2 : oh ≤ rh := hin.2
            have hwd : oh - ol ≤ 1 := by simp only at hwide; omega
            have hob := mul_e he1
            rw [ho] at hob
            obtain ⟨ob1, ob2, ob3⟩ := (ok_iff ol oh).1 hob
            have hwdb : decide (1 < oh - ol) = false := by rw [decide_eq_false_iff_not]; omega
            clear hob
            have HR := Lib.hid hr
            have HO := Lib.hid ho
            have hft : fitsQ (mkRat i 1000000000000 * mkRat j 1000000000000) = true := fitsQ_mul oi.out oj.out
            obtain ⟨t1, t2, t3⟩ := told_vq hft
            obtain ⟨WN, hWN⟩ : ∃ x, toldS (mkRat i 1000000000000 * mkRat j 1000000000000).num = x := ⟨_, rfl⟩
            obtain ⟨WD, hWD⟩ : ∃ x, toldS ((mkRat i 1000000000000 * mkRat j 1000000000000).den : Int) = x := ⟨_, rfl⟩
            rw [hWN, hWD] at t1 t3
            have HT : Hid (Value.tuple #[toldQ (mkRat i 1000000000000 * mkRat j 1000000000000), .int .i64 (toldQE (mkRat i 1000000000000 * mkRat j 1000000000000))] = .tuple #[.agg #[.string WN, .string WD], .int .i64 0]) := by show _ = _; rw [t1, t2]
            have HW := Lib.hid t3
            have HH := Lib.hid hhas
            have HRO : Hid (okB rl rh = true) := by have h := mul_e hee; rw [HR.out] at h; exact h
            clear t1 t2 t3 hWN hWD hft hhas hin hr ho hwide he1 he hee
            obtain ⟨w0, rfl⟩ : ∃ x : World, x = wr := ⟨_, rfl⟩
            have hc0 := hbr
            have cp0 := (hbr.cell (p := ⟨g1, 0, none⟩) lg1).trans z1
            have cp1 := (hbr.cell (p := ⟨g1, 1, none⟩) lg1).trans z2
            have lp := World.block_lt_of_cell? _ _ cp0
            have cq0 := (hbr.cell (p := ⟨g2, 0, none⟩) lg2).trans z3
            have cq1 := (hbr.cell (p := ⟨g2, 1, none⟩) lg2).trans z4
            have lq := World.block_lt_of_cell? _ _ cq0
            have cu0 := (hbr.cell (p := ⟨gu, 0, none⟩) lgu).trans u1
            have cu1 := (hbr.cell (p := ⟨gu, 1, none⟩) lgu).trans u2
            have lu := World.block_lt_of_cell? _ _ cu0
            have cv0 := (hbr.cell (p := ⟨gv, 0, none⟩) lgv).trans v1
            have cv1 := (hbr.cell (p := ⟨gv, 1, none⟩) lgv).trans v2
            have lv := World.block_lt_of_cell? _ _ cv0
            go_wp2_with fail
            refine (mul_b _ a b c dd).mono ?_
            rintro e w1 ⟨rfl, hb1⟩
            rw [HR.out]
            have hk1 := hb1
            have hc1 := chain hc0 hk1
            have hz1 := hk1.size
            have cp0 := (hk1.cell (p := ⟨g1, 0, none⟩) lp).trans cp0
            have cp1 := (hk1.cell (p := ⟨g1, 1, none⟩) lp).trans cp1
            have lp := Nat.lt_of_lt_of_le lp hk1.size
            have cq0 := (hk1.cell (p := ⟨g2, 0, none⟩) lq).trans cq0
            have cq1 := (hk1.cell (p := ⟨g2, 1, none⟩) lq).trans cq1
            have lq := Nat.lt_of_lt_of_le lq hk1.size
            have cu0 := (hk1.cell (p := ⟨gu, 0, none⟩) lu).trans cu0
            have cu1 := (hk1.cell (p := ⟨gu, 1, none⟩) lu).trans cu1
            have lu := Nat.lt_of_lt_of_le lu hk1.size
            have cv0 := (hk1.cell (p := ⟨gv, 0, none⟩) lv).trans cv0
            have cv1 := (hk1.cell (p := ⟨gv, 1, none⟩) lv).trans cv1
            have lv := Nat.lt_of_lt_of_le lv hk1.size
            have hl2 := heap_last w1 (.cells #[.int .i64 rl, .int .i64 rh] 23)
            have ho2 : Below w1.heap.size w1 (w1.alloc (.cells #[.int .i64 rl, .int .i64 rh] 23)) := (Below.refl _ _).alloc (Nat.le_refl _) (.cells #[.int .i64 rl, .int .i64 rh] 23)
            have HSL2 : Hid (∀ w', Below (w1.alloc (.cells #[.int .i64 rl, .int .i64 rh] 23)).heap.size (w1.alloc (.cells #[.int .i64 rl, .int .i64 rh] 23)) w' → w'.cell? ⟨gu, 0, none⟩ = some (.string NU) ∧ w'.cell? ⟨gu, 1, none⟩ = some (.string DU) ∧ w'.cell? ⟨gv, 0, none⟩ = some (.string NV) ∧ w'.cell? ⟨gv, 1, none⟩ = some (.string DV)) := fun w' h => ⟨((chain ho2 h).cell (p := ⟨gu, 0, none⟩) lu).trans cu0, ((chain ho2 h).cell (p := ⟨gu, 1, none⟩) lu).trans cu1, ((chain ho2 h).cell (p := ⟨gv, 0, none⟩) lv).trans cv0, ((chain ho2 h).cell (p := ⟨gv, 1, none⟩) lv).trans cv1⟩
            go_upto_region 10 with fail
            go_cut [19, 20] (fun pw ef wx => ∃ gw , pw = .pointer (some ⟨gw, 0, none⟩) ∧ ef = .int .i64 0 ∧ wx.cell? ⟨gw, 0, none⟩ = some (.string WN) ∧ wx.cell? ⟨gw, 1, none⟩ = some (.string WD) ∧ Below (w1.alloc (.cells #[.int .i64 rl, .int .i64 rh] 23)).heap.size (w1.alloc (.cells #[.int .i64 rl, .int .i64 rh] 23)) wx)
            case first => as_aux_lemma =>
              (try clear cp0); (try clear cp1); (try clear cq0); (try clear cq1); (try clear cu0); (try clear cu1); (try clear cv0); (try clear cv1); (try clear lp); (try clear lq); (try clear lu); (try clear lv); (try clear z1); (try clear z2); (try clear z3); (try clear z4); (try clear u1); (try clear u2); (try clear v1); (try clear v2); (try clear lg1); (try clear lg2); (try clear lgu); (try clear lgv); (try clear hwd); (try clear hwdb); (try clear ob1); (try clear ob2); (try clear ob3); (try clear hi1); (try clear hi2); (try clear HR); (try clear HO); (try clear HH); (try clear HRO); (try clear HW); (try clear HAI); (try clear HAJ); (try clear HUI); (try clear HUJ); (try clear HSP); (try clear HSQ); (try clear oi); (try clear oj); (try clear ii); (try clear jj); (try clear hbr); (try clear O1); (try clear O2); (try clear HSZ); (try clear hW); (try clear HE); (try clear hW1); (try clear hbw); (try clear hWP); (try clear hWE); (try clear hbc); (try clear hbu); (try clear hbv); (try clear hs0); (try clear hs1'); (try clear ht0'); (try clear ht1'); (try clear hx0); (try clear hx1); (try clear hx2); (try clear hx3); (try clear hy0); (try clear hy1); (try clear hy2); (try clear hy3); (try clear hi4); (try clear hk1); (try clear hz1); (try clear hb1)
              go_region_held3 (fun w' => w'.cell? ⟨gu, 0, none⟩ = some (.string NU) ∧ w'.cell? ⟨gu, 1, none⟩ = some (.string DU) ∧ w'.cell? ⟨gv, 0, none⟩ = some (.string NV) ∧ w'.cell? ⟨gv, 1, none⟩ = some (.string DV))
                ((refine HSL2.out _ ?_; repeat (first | with_reducible exact Below.refl _ _ | with_reducible exact hd1 | (with_reducible refine Below.setCell ?_ (by first | omega | (simp <;> omega)) _) | (with_reducible refine Below.alloc ?_ (by first | omega | (simp <;> omega)) _) | with_reducible refine Below.drew ?_)))
                (first
                  | (go_at_call 47; (refine (fmul_any _ ?he NU DU NV DV _ _ HU.out HV.out).mono ?_); (case he => refine (HE4.out.toEnv.below hc1).below (chain ho2 ?_); repeat (first | with_reducible exact Below.refl _ _ | with_reducible exact hd1 | (with_reducible refine Below.setCell ?_ (by first | omega | (simp <;> omega)) _) | (with_reducible refine Below.alloc ?_ (by first | omega | (simp <;> omega)) _) | with_reducible refine Below.drew ?_)); rintro e v1 ⟨rfl, hb1⟩; rw [HT.out]; have hcl1 := (bcell hb1).1; have hfr1 := (bcell hb1).2; have hs1 := hb1.size; (try simp at hs1); (try have hu1 : w1.heap.size < v1.heap.size := by omega); (try have hu2 : w1.heap.size + 1 < v1.heap.size := by omega); have hd1 : Below (w1.alloc (.cells #[.int .i64 rl, .int .i64 rh] 23)).heap.size (w1.alloc (.cells #[.int .i64 rl, .int .i64 rh] 23)) v1 := (by refine Below.trans ?_ (hb1.mono (by first | omega | (simp <;> omega))); repeat (first | with_reducible exact Below.refl _ _ | with_reducible exact hd1 | (with_reducible refine Below.setCell ?_ (by first | omega | (simp <;> omega)) _) | (with_reducible refine Below.alloc ?_ (by first | omega | (simp <;> omega)) _) | with_reducible refine Below.drew ?_))))
              all_goals (
                go_wp2_with fail
                go_meet
                refine ⟨_, rfl, rfl, ?_, ?_, ?_⟩
                · first | (go_simp; done) | (go_simp; refine World.cell?_setCell_same (u := .string ⟨#[]⟩) _ _ _ ?_; go_simp; done) | (go_simp; refine (World.cell?_setCell_other _ _ _ _ (by simp <;> omega)).trans ?_; go_simp; done)
                · first | (go_simp; done) | (go_simp; refine World.cell?_setCell_same (u := .string ⟨#[]⟩) _ _ _ ?_; go_simp; done) | (go_simp; refine (World.cell?_setCell_other _ _ _ _ (by simp <;> omega)).trans ?_; go_simp; done)
                · repeat (first | with_reducible exact Below.refl _ _ | with_reducible exact hd1 | (with_reducible refine Below.setCell ?_ (by first | omega | (simp <;> omega)) _) | (with_reducible refine Below.alloc ?_ (by first | omega | (simp <;> omega)) _) | with_reducible refine Below.drew ?_))
            case rest =>
              obtain ⟨gw, rfl, rfl, cw0, cw1, hb2⟩ := hcut
              obtain ⟨w2, rfl⟩ : ∃ x : World, x = wc := ⟨_, rfl⟩
              have hk2 : Below w1.heap.size w1 w2 := chain ho2 hb2
              have hc2 := chain hc1 hk2
              have hz2 := hk2.size
              have cp0 := (hk2.cell (p := ⟨g1, 0, none⟩) lp).trans cp0
              have cp1 := (hk2.cell (p := ⟨g1, 1, none⟩) lp).trans cp1
              have lp := Nat.lt_of_lt_of_le lp hk2.size
              have cq0 := (hk2.cell (p := ⟨g2, 0, none⟩) lq).trans cq0
              have cq1 := (hk2.cell (p := ⟨g2, 1, none⟩) lq).trans cq1
              have lq := Nat.lt_of_lt_of_le lq hk2.size
              have cu0 := (hk2.cell (p := ⟨gu, 0, none⟩) lu).trans cu0
              have cu1 := (hk2.cell (p := ⟨gu, 1, none⟩) lu).trans cu1
              have lu := Nat.lt_of_lt_of_le lu hk2.size
              have cv0 := (hk2.cell (p := ⟨gv, 0, none⟩) lv).trans cv0
              have cv1 := (hk2.cell (p := ⟨gv, 1, none⟩) lv).trans cv1
              have lv := Nat.lt_of_lt_of_le lv hk2.size
              have cr0 : w2.cell? ⟨w1.heap.size, 0, none⟩ = some (.int .i64 rl) := cell_later hl2 hb2
              have cr1 : w2.cell? ⟨w1.heap.size, 1, none⟩ = some (.int .i64 rh) := cell_later hl2 hb2
              have lr := World.block_lt_of_cell? _ _ cr0
              clear hl2
              have lw := World.block_lt_of_cell? _ _ cw0
              go_wp2_with fail
              refine (has_any _ (HE4.out.below hc2) rl rh WN WD _ HW.out HRO.out).mono ?_
              rintro e w3 ⟨rfl, hb3⟩
              rw [HH.out]
              have hk3 := hb3
              have hc3 := chain hc2 hk3
              have hz3 := hk3.size
              have cp0 := (hk3.cell (p := ⟨g1, 0, none⟩) lp).trans cp0
              have cp1 := (hk3.cell (p := ⟨g1, 1, none⟩) lp).trans cp1
              have lp := Nat.lt_of_lt_of_le lp hk3.size
              have cq0 := (hk3.cell (p := ⟨g2, 0, none⟩) lq).trans cq0
              have cq1 := (hk3.cell (p := ⟨g2, 1, none⟩) lq).trans cq1
              have lq := Nat.lt_of_lt_of_le lq hk3.size
              have cu0 := (hk3.cell (p := ⟨gu, 0, none⟩) lu).trans cu0
              have cu1 := (hk3.cell (p := ⟨gu, 1, none⟩) lu).trans cu1
              have lu := Nat.lt_of_lt_of_le lu hk3.size
              have cv0 := (hk3.cell (p := ⟨gv, 0, none⟩) lv).trans cv0
              have cv1 := (hk3.cell (p := ⟨gv, 1, none⟩) lv).trans cv1
              have lv := Nat.lt_of_lt_of_le lv hk3.size
              have cr0 := (hk3.cell (p := ⟨w1.heap.size, 0, none⟩) lr).trans cr0
              have cr1 := (hk3.cell (p := ⟨w1.heap.size, 1, none⟩) lr).trans cr1
              have lr := Nat.lt_of_lt_of_le lr hk3.size
              have cw0 := (hk3.cell (p := ⟨gw, 0, none⟩) lw).trans cw0
              have cw1 := (hk3.cell (p := ⟨gw, 1, none⟩) lw).trans cw1
              have lw := Nat.lt_of_lt_of_le lw hk3.size
              go_wp2_with fail
              refine (around_in _ (HE4.out.below hc3) NU DU _ HU.out HUI.out.1 HUI.out.2.1 HUI.out.2.2).mono ?_
              rintro e w4 ⟨rfl, hb4⟩
              rw [HAI.out]
              have hk4 := hb4
              have hc4 := chain hc3 hk4
              have hz4 := hk4.size
              clear cp0 cp1 lp
              clear cq0 cq1 lq
              have cu0 := (hk4.cell (p := ⟨gu, 0, none⟩) lu).trans cu0
              have cu1 := (hk4.cell (p := ⟨gu, 1, none⟩) lu).trans cu1
              have lu := Nat.lt_of_lt_of_le lu hk4.size
              have cv0 := (hk4.cell (p := ⟨gv, 0, none⟩) lv).trans cv0
              have cv1 := (hk4.cell (p := ⟨gv, 1, none⟩) lv).trans cv1
              have lv := Nat.lt_of_lt_of_le lv hk4.size
              have cr0 := (hk4.cell (p := ⟨w1.heap.size, 0, none⟩) lr).trans cr0
              have cr1 := (hk4.cell (p := ⟨w1.heap.size, 1, none⟩) lr).trans cr1
              have lr := Nat.lt_of_lt_of_le lr hk4.size
              clear cw0 cw1 lw
              go_wp2_with fail
              refine (around_in _ (HE4.out.below (chain hc4 ((Below.refl _ _).alloc (Nat.le_refl _) _))) NV DV _ HV.out HUJ.out.1 HUJ.out.2.1 HUJ.out.2.2).mono ?_
              rintro e w5 ⟨rfl, hb5⟩
              rw [HAJ.out]
              have hl5 := heap_last w4 (.cells #[.int .i64 i, .int .i64 i] 23)
              have hk5 : Below w4.heap.size w4 w5 := chain ((Below.refl _ _).alloc (Nat.le_refl _) (.cells #[.int .i64 i, .int .i64 i] 23)) hb5
              have hc5 := chain hc4 hk5
              have hz5 := hk5.size
              have hq5 := hb5.size
              simp at hq5
              have cu0 := (hk5.cell (p := ⟨gu, 0, none⟩) lu).trans cu0
              have cu1 := (hk5.cell (p := ⟨gu, 1, none⟩) lu).trans cu1
              have lu := Nat.lt_of_lt_of_le lu hk5.size
              have cv0 := (hk5.cell (p := ⟨gv, 0, none⟩) lv).trans cv0
              have cv1 := (hk5.cell (p := ⟨gv, 1, none⟩) lv).trans cv1
              have lv := Nat.lt_of_lt_of_le lv hk5.size
              have cr0 := (hk5.cell (p := ⟨w1.heap.size, 0, none⟩) lr).trans cr0
              have cr1 := (hk5.cell (p := ⟨w1.heap.size, 1, none⟩) lr).trans cr1
              have lr := Nat.lt_of_lt_of_le lr hk5.size
              have cx0 : w5.cell? ⟨w4.heap.size, 0, none⟩ = some (.int .i64 i) := cell_later hl5 hb5
              have cx1 : w5.cell? ⟨w4.heap.size, 1, none⟩ = some (.int .i64 i) := cell_later hl5 hb5
              have lx := World.block_lt_of_cell? _ _ cx0
              clear hl5
              go_wp2_with fail
              refine (mul_b _ i i j j).mono ?_
              rintro e w6 ⟨rfl, hb6⟩
              rw [HO.out]
              have hl6 := heap_last w5 (.cells #[.int .i64 j, .int .i64 j] 23)
              have hk6 : Below w5.heap.size w5 w6 := chain ((Below.refl _ _).alloc (Nat.le_refl _) (.cells #[.int .i64 j, .int .i64 j] 23)) hb6
              have hc6 := chain hc5 hk6
              have hz6 := hk6.size
              have hq6 := hb6.size
              simp at hq6
              clear cu0 cu1 lu
              clear cv0 cv1 lv
              have cr0 := (hk6.cell (p := ⟨w1.heap.size, 0, none⟩) lr).trans cr0
              have cr1 := (hk6.cell (p := ⟨w1.heap.size, 1, none⟩) lr).trans cr1
              have lr := Nat.lt_of_lt_of_le lr hk6.size
              have cx0 := (hk6.cell (p := ⟨w4.heap.size, 0, none⟩) lx).trans cx0
              have cx1 := (hk6.cell (p := ⟨w4.heap.size, 1, none⟩) lx).trans cx1
              have lx := Nat.lt_of_lt_of_le lx hk6.size
              have cy0 : w6.cell? ⟨w5.heap.size, 0, none⟩ = some (.int .i64 j) := cell_later hl6 hb6
              have cy1 : w6.cell? ⟨w5.heap.size, 1, none⟩ = some (.int .i64 j) := cell_later hl6 hb6
              have ly := World.block_lt_of_cell? _ _ cy0
              clear hl6
              go_wp2_with fail
              refine (inside_ok _ _ _ _ _ hi1 hi2).mono ?_
              rintro e w7 ⟨rfl, hb7⟩
              have hl7 := heap_last w6 (.cells #[.int .i64 ol, .int .i64 oh] 23)
              have hk7 : Below w6.heap.size w6 w7 := chain ((Below.refl _ _).alloc (Nat.le_refl _) (.cells #[.int .i64 ol, .int .i64 oh] 23)) hb7
              have hc7 := chain hc6 hk7
              have hz7 := hk7.size
              have hq7 := hb7.size
              simp at hq7
              have cr0 := (hk7.cell (p := ⟨w1.heap.size, 0, none⟩) lr).trans cr0
              have cr1 := (hk7.cell (p := ⟨w1.heap.size, 1, none⟩) lr).trans cr1
              have lr := Nat.lt_of_lt_of_le lr hk7.size
              have cx0 := (hk7.cell (p := ⟨w4.heap.size, 0, none⟩) lx).trans cx0
              have cx1 := (hk7.cell (p := ⟨w4.heap.size, 1, none⟩) lx).trans cx1
              have lx := Nat.lt_of_lt_of_le lx hk7.size
              have cy0 := (hk7.cell (p := ⟨w5.heap.size, 0, none⟩) ly).trans cy0
              have cy1 := (hk7.cell (p := ⟨w5.heap.size, 1, none⟩) ly).trans cy1
              have ly := Nat.lt_of_lt_of_le ly hk7.size
              have co0 : w7.cell? ⟨w6.heap.size, 0, none⟩ = some (.int .i64 ol) := cell_later hl7 hb7
              have co1 : w7.cell? ⟨w6.heap.size, 1, none⟩ = some (.int .i64 oh) := cell_later hl7 hb7
              have lo := World.block_lt_of_cell? _ _ co0
              clear hl7
              go_wp2_with fail
              go_roundw
              case rel => exact ⟨3, by omega, by omega, (by first | rfl | go_num), hc7⟩
              case measure => first | (simp [intOf]; done) | (simp [intOf] <;> omega) | decide
          · as_aux_lemma =>
            have hi4 := idx4_3
            have hf4 := idf4_3
            rcases div_err HSP.out HSQ.out with he | he
            · as_aux_lemma =>
              have HELD := held_div HSP.out.ok HSQ.out.ok ii.out.1 ii.out.2 jj.out.1 jj.out.2 he
              obtain ⟨hj0, HELD⟩ := HELD
              have hvz : Hid (mkRat j 1000000000000 ≠ 0) := fun h => hj0 ((mk_zero_iff j).1 (by rw [h]; rfl))
              have hee := he
              obtain ⟨he1, hwide, hin, hhas⟩ := HELD
              obtain ⟨rl, rh, hr⟩ := BR.of_e he
              rw [hr] at hin hhas
              obtain ⟨ol, oh, ho⟩ := BR.of_e he1
              rw [ho] at hwide hin
              have hi1 : rl ≤ ol := hin.1
              have hi2 : oh ≤ rh := hin.2
              have hwd : oh - ol ≤ 1 := by simp only at hwide; omega
              have hob := div_e he1
              rw [ho] at hob
              obtain ⟨ob1, ob2, ob3⟩ := (ok_iff ol oh).1 hob
              have hwdb : decide (1 < oh - ol) = false := by rw [decide_eq_false_iff_not]; omega
              clear hob
              have HR := Lib.hid hr
              have HO := Lib.hid ho
              have hft : fitsQ (mkRat i 1000000000000 / mkRat j 1000000000000) = true := fitsQ_div oi.out oj.out hj0
              obtain ⟨t1, t2, t3⟩ := told_vq hft
              obtain ⟨WN, hWN⟩ : ∃ x, toldS (mkRat i 1000000000000 / mkRat j 1000000000000).num = x := ⟨_, rfl⟩
              obtain ⟨WD, hWD⟩ : ∃ x, toldS ((mkRat i 1000000000000 / mkRat j 1000000000000).den : Int) = x := ⟨_, rfl⟩
              rw [hWN, hWD] at t1 t3
              have HT : Hid (Value.tuple #[toldQ (mkRat i 1000000000000 / mkRat j 1000000000000), .int .i64 (toldQE (mkRat i 1000000000000 / mkRat j 1000000000000))] = .tuple #[.agg #[.string WN, .string WD], .int .i64 0]) := by show _ = _; rw [t1, t2]
              have HW := Lib.hid t3
              have HH := Lib.hid hhas
              have HRO : Hid (okB rl rh = true) := by have h := div_e hee; rw [HR.out] at h; exact h
              clear t1 t2 t3 hWN hWD hft hhas hin hr ho hwide he1 he hee
              obtain ⟨w0, rfl⟩ : ∃ x : World, x = wr := ⟨_, rfl⟩
              have hc0 := hbr
              have cp0 := (hbr.cell (p := ⟨g1, 0, none⟩) lg1).trans z1
              have cp1 := (hbr.cell (p := ⟨g1, 1, none⟩) lg1).trans z2
              have lp := World.block_lt_of_cell? _ _ cp0
              have cq0 := (hbr.cell (p := ⟨g2, 0, none⟩) lg2).trans z3
              have cq1 := (hbr.cell (p := ⟨g2, 1, none⟩) lg2).trans z4
              have lq := World.block_lt_of_cell? _ _ cq0
              have cu0 := (hbr.cell (p := ⟨gu, 0, none⟩) lgu).trans u1
              have cu1 := (hbr.cell (p := ⟨gu, 1, none⟩) lgu).trans u2
              have lu := World.block_lt_of_cell? _ _ cu0
              have cv0 := (hbr.cell (p := ⟨gv, 0, none⟩) lgv).trans v1
              have cv1 := (hbr.cell (p := ⟨gv, 1, none⟩) lgv).trans v2
              have lv := World.block_lt_of_cell? _ _ cv0
              go_wp2_with fail
              refine (div_b _ a b c dd).mono ?_
              rintro e w1 ⟨rfl, hb1⟩
              rw [HR.out]
              have hk1 := hb1
              have hc1 := chain hc0 hk1
              have hz1 := hk1.size
              have cp0 := (hk1.cell (p := ⟨g1, 0, none⟩) lp).trans cp0
              have cp1 := (hk1.cell (p := ⟨g1, 1, none⟩) lp).trans cp1
              have lp := Nat.lt_of_lt_of_le lp hk1.size
              have cq0 := (hk1.cell (p := ⟨g2, 0, none⟩) lq).trans cq0
              have cq1 := (hk1.cell (p := ⟨g2, 1, none⟩) lq).trans cq1
              have lq := Nat.lt_of_lt_of_le lq hk1.size
              have cu0 := (hk1.cell (p := ⟨gu, 0, none⟩) lu).trans cu0
              have cu1 := (hk1.cell (p := ⟨gu, 1, none⟩) lu).trans cu1
              have lu := Nat.lt_of_lt_of_le lu hk1.size
              have cv0 := (hk1.cell (p := ⟨gv, 0, none⟩) lv).trans cv0
              have cv1 := (hk1.cell (p := ⟨gv, 1, none⟩) lv).trans cv1
              have lv := Nat.lt_of_lt_of_le lv hk1.size
              have hl2 := heap_last w1 (.cells #[.int .i64 rl, .int .i64 rh] 23)
              have ho2 : Below w1.heap.size w1 (w1.alloc (.cells #[.int .i64 rl, .int .i64 rh] 23)) := (Below.refl _ _).alloc (Nat.le_refl _) (.cells #[.int .i64 rl, .int .i64 rh] 23)
              have HSL2 : Hid (∀ w', Below (w1.alloc (.cells #[.int .i64 rl, .int .i64 rh] 23)).heap.size (w1.alloc (.cells #[.int .i64 rl, .int .i64 rh] 23)) w' → w'.cell? ⟨gu, 0, none⟩ = some (.string NU) ∧ w'.cell? ⟨gu, 1, none⟩ = some (.string DU) ∧ w'.cell? ⟨gv, 0, none⟩ = some (.string NV) ∧ w'.cell? ⟨gv, 1, none⟩ = some (.string DV)) := fun w' h => ⟨((chain ho2 h).cell (p := ⟨gu, 0, none⟩) lu).trans cu0, ((chain ho2 h).cell (p := ⟨gu, 1, none⟩) lu).trans cu1, ((chain ho2 h).cell (p := ⟨gv, 0, none⟩) lv).trans cv0, ((chain ho2 h).cell (p := ⟨gv, 1, none⟩) lv).trans cv1⟩
              go_upto_region 10 with fail
              go_cut [19, 20] (fun pw ef wx => ∃ gw , pw = .pointer (some ⟨gw, 0, none⟩) ∧ ef = .int .i64 0 ∧ wx.cell? ⟨gw, 0, none⟩ = some (.string WN) ∧ wx.cell? ⟨gw, 1, none⟩ = some (.string WD) ∧ Below (w1.alloc (.cells #[.int .i64 rl, .int .i64 rh] 23)).heap.size (w1.alloc (.cells #[.int .i64 rl, .int .i64 rh] 23)) wx)
              case first => as_aux_lemma =>
                (try clear cp0); (try clear cp1); (try clear cq0); (try clear cq1); (try clear cu0); (try clear cu1); (try clear cv0); (try clear cv1); (try clear lp); (try clear lq); (try clear lu); (try clear lv); (try clear z1); (try clear z2); (try clear z3); (try clear z4); (try clear u1); (try clear u2); (try clear v1); (try clear v2); (try clear lg1); (try clear lg2); (try clear lgu); (try clear lgv); (try clear hwd); (try clear hwdb); (try clear ob1); (try clear ob2); (try clear ob3); (try clear hi1); (try clear hi2); (try clear HR); (try clear HO); (try clear HH); (try clear HRO); (try clear HW); (try clear HAI); (try clear HAJ); (try clear HUI); (try clear HUJ); (try clear HSP); (try clear HSQ); (try clear oi); (try clear oj); (try clear ii); (try clear jj); (try clear hbr); (try clear O1); (try clear O2); (try clear HSZ); (try clear hW); (try clear HE); (try clear hW1); (try clear hbw); (try clear hWP); (try clear hWE); (try clear hbc); (try clear hbu); (try clear hbv); (try clear hs0); (try clear hs1'); (try clear ht0'); (try clear ht1'); (try clear hx0); (try clear hx1); (try clear hx2); (try clear hx3); (try clear hy0); (try clear hy1); (try clear hy2); (try clear hy3); (try clear hi4); (try clear hk1); (try clear hz1); (try clear hb1)
                go_region_held3 (fun w' => w'.cell? ⟨gu, 0, none⟩ = some (.string NU) ∧ w'.cell? ⟨gu, 1, none⟩ = some (.string DU) ∧ w'.cell? ⟨gv, 0, none⟩ = some (.string NV) ∧ w'.cell? ⟨gv, 1, none⟩ = some (.string DV))
                  ((refine HSL2.out _ ?_; repeat (first | with_reducible exact Below.refl _ _ | with_reducible exact hd1 | (with_reducible refine Below.setCell ?_ (by first | omega | (simp <;> omega)) _) | (with_reducible refine Below.alloc ?_ (by first | omega | (simp <;> omega)) _) | with_reducible refine Below.drew ?_)))
                  (first
                    | (go_at_call 48; (refine (fdiv_any _ ?he NU DU NV DV _ _ HU.out HV.out hvz.out).mono ?_); (case he => refine (HE4.out.toEnv.below hc1).below (chain ho2 ?_); repeat (first | with_reducible exact Below.refl _ _ | with_reducible exact hd1 | (with_reducible refine Below.setCell ?_ (by first | omega | (simp <;> omega)) _) | (with_reducible refine Below.alloc ?_ (by first | omega | (simp <;> omega)) _) | with_reducible refine Below.drew ?_)); rintro e v1 ⟨rfl, hb1⟩; rw [HT.out]; have hcl1 := (bcell hb1).1; have hfr1 := (bcell hb1).2; have hs1 := hb1.size; (try simp at hs1); (try have hu1 : w1.heap.size < v1.heap.size := by omega); (try have hu2 : w1.heap.size + 1 < v1.heap.size := by omega); have hd1 : Below (w1.alloc (.cells #[.int .i64 rl, .int .i64 rh] 23)).heap.size (w1.alloc (.cells #[.int .i64 rl, .int .i64 rh] 23)) v1 := (by refine Below.trans ?_ (hb1.mono (by first | omega | (simp <;> omega))); repeat (first | with_reducible exact Below.refl _ _ | with_reducible exact hd1 | (with_reducible refine Below.setCell ?_ (by first | omega | (simp <;> omega)) _) | (with_reducible refine Below.alloc ?_ (by first | omega | (simp <;> omega)) _) | with_reducible refine Below.drew ?_))))
                all_goals (
                  go_wp2_with fail
                  go_meet
                  refine ⟨_, rfl, rfl, ?_, ?_, ?_⟩
                  · first | (go_simp; done) | (go_simp; refine World.cell?_setCell_same (u := .string ⟨#[]⟩) _ _ _ ?_; go_simp; done) | (go_simp; refine (World.cell?_setCell_other _ _ _ _ (by simp <;> omega)).trans ?_; go_simp; done)
                  · first | (go_simp; done) | (go_simp; refine World.cell?_setCell_same (u := .string ⟨#[]⟩) _ _ _ ?_; go_simp; done) | (go_simp; refine (World.cell?_setCell_other _ _ _ _ (by simp <;> omega)).trans ?_; go_simp; done)
                  · repeat (first | with_reducible exact Below.refl _ _ | with_reducible exact hd1 | (with_reducible refine Below.setCell ?_ (by first | omega | (simp <;> omega)) _) | (with_reducible refine Below.alloc ?_ (by first | omega | (simp <;> omega)) _) | with_reducible refine Below.drew ?_))
              case rest =>
                obtain ⟨gw, rfl, rfl, cw0, cw1, hb2⟩ := hcut
                obtain ⟨w2, rfl⟩ : ∃ x : World, x = wc := ⟨_, rfl⟩
                have hk2 : Below w1.heap.size w1 w2 := chain ho2 hb2
                have hc2 := chain hc1 hk2
                have hz2 := hk2.size
                have cp0 := (hk2.cell (p := ⟨g1, 0, none⟩) lp).trans cp0
                have cp1 := (hk2.cell (p := ⟨g1, 1, none⟩) lp).trans cp1
                have lp := Nat.lt_of_lt_of_le lp hk2.size
                have cq0 := (hk2.cell (p := ⟨g2, 0, none⟩) lq).trans cq0
                have cq1 := (hk2.cell (p := ⟨g2, 1, none⟩) lq).trans cq1
                have lq := Nat.lt_of_lt_of_le lq hk2.size
                have cu0 := (hk2.cell (p := ⟨gu, 0, none⟩) lu).trans cu0
                have cu1 := (hk2.cell (p := ⟨gu, 1, none⟩) lu).trans cu1
                have lu := Nat.lt_of_lt_of_le lu hk2.size
                have cv0 := (hk2.cell (p := ⟨gv, 0, none⟩) lv).trans cv0
                have cv1 := (hk2.cell (p := ⟨gv, 1, none⟩) lv).trans cv1
                have lv := Nat.lt_of_lt_of_le lv hk2.size
                have cr0 : w2.cell? ⟨w1.heap.size, 0, none⟩ = some (.int .i64 rl) := cell_later hl2 hb2
                have cr1 : w2.cell? ⟨w1.heap.size, 1, none⟩ = some (.int .i64 rh) := cell_later hl2 hb2
                have lr := World.block_lt_of_cell? _ _ cr0
                clear hl2
                have lw := World.block_lt_of_cell? _ _ cw0
                go_wp2_with fail
                refine (has_any _ (HE4.out.below hc2) rl rh WN WD _ HW.out HRO.out).mono ?_
                rintro e w3 ⟨rfl, hb3⟩
                rw [HH.out]
                have hk3 := hb3
                have hc3 := chain hc2 hk3
                have hz3 := hk3.size
                have cp0 := (hk3.cell (p := ⟨g1, 0, none⟩) lp).trans cp0
                have cp1 := (hk3.cell (p := ⟨g1, 1, none⟩) lp).trans cp1
                have lp := Nat.lt_of_lt_of_le lp hk3.size
                have cq0 := (hk3.cell (p := ⟨g2, 0, none⟩) lq).trans cq0
                have cq1 := (hk3.cell (p := ⟨g2, 1, none⟩) lq).trans cq1
                have lq := Nat.lt_of_lt_of_le lq hk3.size
                have cu0 := (hk3.cell (p := ⟨gu, 0, none⟩) lu).trans cu0
                have cu1 := (hk3.cell (p := ⟨gu, 1, none⟩) lu).trans cu1
                have lu := Nat.lt_of_lt_of_le lu hk3.size
                have cv0 := (hk3.cell (p := ⟨gv, 0, none⟩) lv).trans cv0
                have cv1 := (hk3.cell (p := ⟨gv, 1, none⟩) lv).trans cv1
                have lv := Nat.lt_of_lt_of_le lv hk3.size
                have cr0 := (hk3.cell (p := ⟨w1.heap.size, 0, none⟩) lr).trans cr0
                have cr1 := (hk3.cell (p := ⟨w1.heap.size, 1, none⟩) lr).trans cr1
                have lr := Nat.lt_of_lt_of_le lr hk3.size
                have cw0 := (hk3.cell (p := ⟨gw, 0, none⟩) lw).trans cw0
                have cw1 := (hk3.cell (p := ⟨gw, 1, none⟩) lw).trans cw1
                have lw := Nat.lt_of_lt_of_le lw hk3.size
                go_wp2_with fail
                refine (around_in _ (HE4.out.below hc3) NU DU _ HU.out HUI.out.1 HUI.out.2.1 HUI.out.2.2).mono ?_
                rintro e w4 ⟨rfl, hb4⟩
                rw [HAI.out]
                have hk4 := hb4
                have hc4 := chain hc3 hk4
                have hz4 := hk4.size
                clear cp0 cp1 lp
                clear cq0 cq1 lq
                have cu0 := (hk4.cell (p := ⟨gu, 0, none⟩) lu).trans cu0
                have cu1 := (hk4.cell (p := ⟨gu, 1, none⟩) lu).trans cu1
                have lu := Nat.lt_of_lt_of_le lu hk4.size
                have cv0 := (hk4.cell (p := ⟨gv, 0, none⟩) lv).trans cv0
                have cv1 := (hk4.cell (p := ⟨gv, 1, none⟩) lv).trans cv1
                have lv := Nat.lt_of_lt_of_le lv hk4.size
                have cr0 := (hk4.cell (p := ⟨w1.heap.size, 0, none⟩) lr).trans cr0
                have cr1 := (hk4.cell (p := ⟨w1.heap.size, 1, none⟩) lr).trans cr1
                have lr := Nat.lt_of_lt_of_le lr hk4.size
                clear cw0 cw1 lw
                go_wp2_with fail
                refine (around_in _ (HE4.out.below (chain hc4 ((Below.refl _ _).alloc (Nat.le_refl _) _))) NV DV _ HV.out HUJ.out.1 HUJ.out.2.1 HUJ.out.2.2).mono ?_
                rintro e w5 ⟨rfl, hb5⟩
                rw [HAJ.out]
                have hl5 := heap_last w4 (.cells #[.int .i64 i, .int .i64 i] 23)
                have hk5 : Below w4.heap.size w4 w5 := chain ((Below.refl _ _).alloc (Nat.le_refl _) (.cells #[.int .i64 i, .int .i64 i] 23)) hb5
                have hc5 := chain hc4 hk5
                have hz5 := hk5.size
                have hq5 := hb5.size
                simp at hq5
                have cu0 := (hk5.cell (p := ⟨gu, 0, none⟩) lu).trans cu0
                have cu1 := (hk5.cell (p := ⟨gu, 1, none⟩) lu).trans cu1
                have lu := Nat.lt_of_lt_of_le lu hk5.size
                have cv0 := (hk5.cell (p := ⟨gv, 0, none⟩) lv).trans cv0
                have cv1 := (hk5.cell (p := ⟨gv, 1, none⟩) lv).trans cv1
                have lv := Nat.lt_of_lt_of_le lv hk5.size
                have cr0 := (hk5.cell (p := ⟨w1.heap.size, 0, none⟩) lr).trans cr0
                have cr1 := (hk5.cell (p := ⟨w1.heap.size, 1, none⟩) lr).trans cr1
                have lr := Nat.lt_of_lt_of_le lr hk5.size
                have cx0 : w5.cell? ⟨w4.heap.size, 0, none⟩ = some (.int .i64 i) := cell_later hl5 hb5
                have cx1 : w5.cell? ⟨w4.heap.size, 1, none⟩ = some (.int .i64 i) := cell_later hl5 hb5
                have lx := World.block_lt_of_cell? _ _ cx0
                clear hl5
                go_wp2_with fail
                refine (div_b _ i i j j).mono ?_
                rintro e w6 ⟨rfl, hb6⟩
                rw [HO.out]
                have hl6 := heap_last w5 (.cells #[.int .i64 j, .int .i64 j] 23)
                have hk6 : Below w5.heap.size w5 w6 := chain ((Below.refl _ _).alloc (Nat.le_refl _) (.cells #[.int .i64 j, .int .i64 j] 23)) hb6
                have hc6 := chain hc5 hk6
                have hz6 := hk6.size
                have hq6 := hb6.size
                simp at hq6
                clear cu0 cu1 lu
                clear cv0 cv1 lv
                have cr0 := (hk6.cell (p := ⟨w1.heap.size, 0, none⟩) lr).trans cr0
                have cr1 := (hk6.cell (p := ⟨w1.heap.size, 1, none⟩) lr).trans cr1
                have lr := Nat.lt_of_lt_of_le lr hk6.size
                have cx0 := (hk6.cell (p := ⟨w4.heap.size, 0, none⟩) lx).trans cx0
                have cx1 := (hk6.cell (p := ⟨w4.heap.size, 1, none⟩) lx).trans cx1
                have lx := Nat.lt_of_lt_of_le lx hk6.size
                have cy0 : w6.cell? ⟨w5.heap.size, 0, none⟩ = some (.int .i64 j) := cell_later hl6 hb6
                have cy1 : w6.cell? ⟨w5.heap.size, 1, none⟩ = some (.int .i64 j) := cell_later hl6 hb6
                have ly := World.block_lt_of_cell? _ _ cy0
                clear hl6
                go_wp2_with fail
                refine (inside_ok _ _ _ _ _ hi1 hi2).mono ?_
                rintro e w7 ⟨rfl, hb7⟩
                have hl7 := heap_last w6 (.cells #[.int .i64 ol, .int .i64 oh] 23)
                have hk7 : Below w6.heap.size w6 w7 := chain ((Below.refl _ _).alloc (Nat.le_refl _) (.cells #[.int .i64 ol, .int .i64 oh] 23)) hb7
                have hc7 := chain hc6 hk7
                have hz7 := hk7.size
                have hq7 := hb7.size
                simp at hq7
                have cr0 := (hk7.cell (p := ⟨w1.heap.size, 0, none⟩) lr).trans cr0
                have cr1 := (hk7.cell (p := ⟨w1.heap.size, 1, none⟩) lr).trans cr1
                have lr := Nat.lt_of_lt_of_le lr hk7.size
                have cx0 := (hk7.cell (p := ⟨w4.heap.size, 0, none⟩) lx).trans cx0
                have cx1 := (hk7.cell (p := ⟨w4.heap.size, 1, none⟩) lx).trans cx1
                have lx := Nat.lt_of_lt_of_le lx hk7.size
                have cy0 := (hk7.cell (p := ⟨w5.heap.size, 0, none⟩) ly).trans cy0
                have cy1 := (hk7.cell (p := ⟨w5.heap.size, 1, none⟩) ly).trans cy1
                have ly := Nat.lt_of_lt_of_le ly hk7.size
                have co0 : w7.cell? ⟨w6.heap.size, 0, none⟩ = some (.int .i64 ol) := cell_later hl7 hb7
                have co1 : w7.cell? ⟨w6.heap.size, 1, none⟩ = some (.int .i64 oh) := cell_later hl7 hb7
                have lo := World.block_lt_of_cell? _ _ co0
                clear hl7
                go_wp2_with fail
                go_roundw
                case rel => exact ⟨4, by omega, by omega, (by first | rfl | go_num), hc7⟩
                case measure => first | (simp [intOf]; done) | (simp [intOf] <;> omega) | decide
            · obtain ⟨r, hr⟩ : ∃ r, divB a b c dd = r := ⟨_, rfl⟩
              have HR := Lib.hid hr
              rw [hr] at he
              clear hr
              have he0 : (r.e == 0) = false := by rcases he with he | he <;> rw [he] <;> rfl
              rcases he with he | he
              · as_aux_lemma =>
                obtain ⟨w0, rfl⟩ : ∃ x : World, x = wr := ⟨_, rfl⟩
                have hc0 := hbr
                have cp0 := (hbr.cell (p := ⟨g1, 0, none⟩) lg1).trans z1
                have cp1 := (hbr.cell (p := ⟨g1, 1, none⟩) lg1).trans z2
                have lp := World.block_lt_of_cell? _ _ cp0
                have cq0 := (hbr.cell (p := ⟨g2, 0, none⟩) lg2).trans z3
                have cq1 := (hbr.cell (p := ⟨g2, 1, none⟩) lg2).trans z4
                have lq := World.block_lt_of_cell? _ _ cq0
                have cu0 := (hbr.cell (p := ⟨gu, 0, none⟩) lgu).trans u1
                have cu1 := (hbr.cell (p := ⟨gu, 1, none⟩) lgu).trans u2
                have lu := World.block_lt_of_cell? _ _ cu0
                have cv0 := (hbr.cell (p := ⟨gv, 0, none⟩) lgv).trans v1
                have cv1 := (hbr.cell (p := ⟨gv, 1, none⟩) lgv).trans v2
                have lv := World.block_lt_of_cell? _ _ cv0
                go_wp2_with fail
                refine (div_b _ a b c dd).mono ?_
                rintro e w1 ⟨rfl, hb1⟩
                rw [HR.out]
                have hk1 := hb1
                have hc1 := chain hc0 hk1
                have hz1 := hk1.size
                have cp0 := (hk1.cell (p := ⟨g1, 0, none⟩) lp).trans cp0
                have cp1 := (hk1.cell (p := ⟨g1, 1, none⟩) lp).trans cp1
                have lp := Nat.lt_of_lt_of_le lp hk1.size
                have cq0 := (hk1.cell (p := ⟨g2, 0, none⟩) lq).trans cq0
                have cq1 := (hk1.cell (p := ⟨g2, 1, none⟩) lq).trans cq1
                have lq := Nat.lt_of_lt_of_le lq hk1.size
                have cu0 := (hk1.cell (p := ⟨gu, 0, none⟩) lu).trans cu0
                have cu1 := (hk1.cell (p := ⟨gu, 1, none⟩) lu).trans cu1
                have lu := Nat.lt_of_lt_of_le lu hk1.size
                have cv0 := (hk1.cell (p := ⟨gv, 0, none⟩) lv).trans cv0
                have cv1 := (hk1.cell (p := ⟨gv, 1, none⟩) lv).trans cv1
                have lv := Nat.lt_of_lt_of_le lv hk1.size
                have hl2 := heap_last w1 (.cells #[.int .i64 r.lo, .int .i64 r.hi] 23)
                have ho2 : Below w1.heap.size w1 (w1.alloc (.cells #[.int .i64 r.lo, .int .i64 r.hi] 23)) := (Below.refl _ _).alloc (Nat.le_refl _) (.cells #[.int .i64 r.lo, .int .i64 r.hi] 23)
                have HSL2 : Hid (∀ w', Below (w1.alloc (.cells #[.int .i64 r.lo, .int .i64 r.hi] 23)).heap.size (w1.alloc (.cells #[.int .i64 r.lo, .int .i64 r.hi] 23)) w' → w'.cell? ⟨gu, 0, none⟩ = some (.string NU) ∧ w'.cell? ⟨gu, 1, none⟩ = some (.string DU) ∧ w'.cell? ⟨gv, 0, none⟩ = some (.string NV) ∧ w'.cell? ⟨gv, 1, none⟩ = some (.string DV)) := fun w' h => ⟨((chain ho2 h).cell (p := ⟨gu, 0, none⟩) lu).trans cu0, ((chain ho2 h).cell (p := ⟨gu, 1, none⟩) lu).trans cu1, ((chain ho2 h).cell (p := ⟨gv, 0, none⟩) lv).trans cv0, ((chain ho2 h).cell (p := ⟨gv, 1, none⟩) lv).trans cv1⟩
                go_upto_region 10 with fail
                go_cut [19, 20] (fun pw ef wx => ∃ gw WN WD fe, pw = .pointer (some ⟨gw, 0, none⟩) ∧ ef = .int .i64 fe ∧ wx.cell? ⟨gw, 0, none⟩ = some (.string WN) ∧ wx.cell? ⟨gw, 1, none⟩ = some (.string WD) ∧ Below (w1.alloc (.cells #[.int .i64 r.lo, .int .i64 r.hi] 23)).heap.size (w1.alloc (.cells #[.int .i64 r.lo, .int .i64 r.hi] 23)) wx)
                case first => as_aux_lemma =>
                  (try clear cp0); (try clear cp1); (try clear cq0); (try clear cq1); (try clear cu0); (try clear cu1); (try clear cv0); (try clear cv1); (try clear lp); (try clear lq); (try clear lu); (try clear lv); (try clear z1); (try clear z2); (try clear z3); (try clear z4); (try clear u1); (try clear u2); (try clear v1); (try clear v2); (try clear lg1); (try clear lg2); (try clear lgu); (try clear lgv); (try clear hwd); (try clear hwdb); (try clear ob1); (try clear ob2); (try clear ob3); (try clear hi1); (try clear hi2); (try clear HR); (try clear HO); (try clear HH); (try clear HRO); (try clear HW); (try clear HAI); (try clear HAJ); (try clear HUI); (try clear HUJ); (try clear HSP); (try clear HSQ); (try clear oi); (try clear oj); (try clear ii); (try clear jj); (try clear hbr); (try clear O1); (try clear O2); (try clear HSZ); (try clear hW); (try clear HE); (try clear hW1); (try clear hbw); (try clear hWP); (try clear hWE); (try clear hbc); (try clear hbu); (try clear hbv); (try clear hs0); (try clear hs1'); (try clear ht0'); (try clear ht1'); (try clear hx0); (try clear hx1); (try clear hx2); (try clear hx3); (try clear hy0); (try clear hy1); (try clear hy2); (try clear hy3); (try clear hi4); (try clear hk1); (try clear hz1); (try clear hb1)
                  go_region_held3 (fun w' => w'.cell? ⟨gu, 0, none⟩ = some (.string NU) ∧ w'.cell? ⟨gu, 1, none⟩ = some (.string DU) ∧ w'.cell? ⟨gv, 0, none⟩ = some (.string NV) ∧ w'.cell? ⟨gv, 1, none⟩ = some (.string DV))
                    ((refine HSL2.out _ ?_; repeat (first | with_reducible exact Below.refl _ _ | with_reducible exact hd1 | (with_reducible refine Below.setCell ?_ (by first | omega | (simp <;> omega)) _) | (with_reducible refine Below.alloc ?_ (by first | omega | (simp <;> omega)) _) | with_reducible refine Below.drew ?_)))
                    (first
                      | (go_at_call 48; (refine (fdiv_all _ ?he NU DU NV DV _ _ HU.out HV.out).mono ?_); (case he => refine (HE4.out.toEnv.below hc1).below (chain ho2 ?_); repeat (first | with_reducible exact Below.refl _ _ | with_reducible exact hd1 | (with_reducible refine Below.setCell ?_ (by first | omega | (simp <;> omega)) _) | (with_reducible refine Below.alloc ?_ (by first | omega | (simp <;> omega)) _) | with_reducible refine Below.drew ?_)); rintro e v1 ⟨XN, XD, xe, rfl, hb1⟩; have hcl1 := (bcell hb1).1; have hfr1 := (bcell hb1).2; have hs1 := hb1.size; (try simp at hs1); (try have hu1 : w1.heap.size < v1.heap.size := by omega); (try have hu2 : w1.heap.size + 1 < v1.heap.size := by omega); have hd1 : Below (w1.alloc (.cells #[.int .i64 r.lo, .int .i64 r.hi] 23)).heap.size (w1.alloc (.cells #[.int .i64 r.lo, .int .i64 r.hi] 23)) v1 := (by refine Below.trans ?_ (hb1.mono (by first | omega | (simp <;> omega))); repeat (first | with_reducible exact Below.refl _ _ | with_reducible exact hd1 | (with_reducible refine Below.setCell ?_ (by first | omega | (simp <;> omega)) _) | (with_reducible refine Below.alloc ?_ (by first | omega | (simp <;> omega)) _) | with_reducible refine Below.drew ?_))))
                  all_goals (
                    go_wp2_with fail
                    go_meet
                    refine ⟨_, XN, XD, xe, rfl, rfl, ?_, ?_, ?_⟩
                    · first | (go_simp; done) | (go_simp; refine World.cell?_setCell_same (u := .string ⟨#[]⟩) _ _ _ ?_; go_simp; done) | (go_simp; refine (World.cell?_setCell_other _ _ _ _ (by simp <;> omega)).trans ?_; go_simp; done)
                    · first | (go_simp; done) | (go_simp; refine World.cell?_setCell_same (u := .string ⟨#[]⟩) _ _ _ ?_; go_simp; done) | (go_simp; refine (World.cell?_setCell_other _ _ _ _ (by simp <;> omega)).trans ?_; go_simp; done)
                    · repeat (first | with_reducible exact Below.refl _ _ | with_reducible exact hd1 | (with_reducible refine Below.setCell ?_ (by first | omega | (simp <;> omega)) _) | (with_reducible refine Below.alloc ?_ (by first | omega | (simp <;> omega)) _) | with_reducible refine Below.drew ?_))
                case rest =>
                  obtain ⟨gw, WN, WD, fe, rfl, rfl, cw0, cw1, hb2⟩ := hcut
                  obtain ⟨w2, rfl⟩ : ∃ x : World, x = wc := ⟨_, rfl⟩
                  have hk2 : Below w1.heap.size w1 w2 := chain ho2 hb2
                  have hc2 := chain hc1 hk2
                  have hz2 := hk2.size
                  have cp0 := (hk2.cell (p := ⟨g1, 0, none⟩) lp).trans cp0
                  have cp1 := (hk2.cell (p := ⟨g1, 1, none⟩) lp).trans cp1
                  have lp := Nat.lt_of_lt_of_le lp hk2.size
                  have cq0 := (hk2.cell (p := ⟨g2, 0, none⟩) lq).trans cq0
                  have cq1 := (hk2.cell (p := ⟨g2, 1, none⟩) lq).trans cq1
                  have lq := Nat.lt_of_lt_of_le lq hk2.size
                  have cu0 := (hk2.cell (p := ⟨gu, 0, none⟩) lu).trans cu0
                  have cu1 := (hk2.cell (p := ⟨gu, 1, none⟩) lu).trans cu1
                  have lu := Nat.lt_of_lt_of_le lu hk2.size
                  have cv0 := (hk2.cell (p := ⟨gv, 0, none⟩) lv).trans cv0
                  have cv1 := (hk2.cell (p := ⟨gv, 1, none⟩) lv).trans cv1
                  have lv := Nat.lt_of_lt_of_le lv hk2.size
                  have cr0 : w2.cell? ⟨w1.heap.size, 0, none⟩ = some (.int .i64 r.lo) := cell_later hl2 hb2
                  have cr1 : w2.cell? ⟨w1.heap.size, 1, none⟩ = some (.int .i64 r.hi) := cell_later hl2 hb2
                  have lr := World.block_lt_of_cell? _ _ cr0
                  clear hl2
                  have lw := World.block_lt_of_cell? _ _ cw0
                  go_wp2_with fail
                  go_roundw
                  case rel => exact ⟨4, by omega, by omega, (by first | rfl | go_num), hc2⟩
                  case measure => first | (simp [intOf]; done) | (simp [intOf] <;> omega) | decide
              · as_aux_lemma =>
                obtain ⟨w0, rfl⟩ : ∃ x : World, x = wr := ⟨_, rfl⟩
                have hc0 := hbr
                have cp0 := (hbr.cell (p := ⟨g1, 0, none⟩) lg1).trans z1
                have cp1 := (hbr.cell (p := ⟨g1, 1, none⟩) lg1).trans z2
                have lp := World.block_lt_of_cell? _ _ cp0
                have cq0 := (hbr.cell (p := ⟨g2, 0, none⟩) lg2).trans z3
                have cq1 := (hbr.cell (p := ⟨g2, 1, none⟩) lg2).trans z4
                have lq := World.block_lt_of_cell? _ _ cq0
                have cu0 := (hbr.cell (p := ⟨gu, 0, none⟩) lgu).trans u1
                have cu1 := (hbr.cell (p := ⟨gu, 1, none⟩) lgu).trans u2
                have lu := World.block_lt_of_cell? _ _ cu0
                have cv0 := (hbr.cell (p := ⟨gv, 0, none⟩) lgv).trans v1
                have cv1 := (hbr.cell (p := ⟨gv, 1, none⟩) lgv).trans v2
                have lv := World.block_lt_of_cell? _ _ cv0
                go_wp2_with fail
                refine (div_b _ a b c dd).mono ?_
                rintro e w1 ⟨rfl, hb1⟩
                rw [HR.out]
                have hk1 := hb1
                have hc1 := chain hc0 hk1
                have hz1 := hk1.size
                have cp0 := (hk1.cell (p := ⟨g1, 0, none⟩) lp).trans cp0
                have cp1 := (hk1.cell (p := ⟨g1, 1, none⟩) lp).trans cp1
                have lp := Nat.lt_of_lt_of_le lp hk1.size
                have cq0 := (hk1.cell (p := ⟨g2, 0, none⟩) lq).trans cq0
                have cq1 := (hk1.cell (p := ⟨g2, 1, none⟩) lq).trans cq1
                have lq := Nat.lt_of_lt_of_le lq hk1.size
                have cu0 := (hk1.cell (p := ⟨gu, 0, none⟩) lu).trans cu0
                have cu1 := (hk1.cell (p := ⟨gu, 1, none⟩) lu).trans cu1
                have lu := Nat.lt_of_lt_of_le lu hk1.size
                have cv0 := (hk1.cell (p := ⟨gv, 0, none⟩) lv).trans cv0
                have cv1 := (hk1.cell (p := ⟨gv, 1, none⟩) lv).trans cv1
                have lv := Nat.lt_of_lt_of_le lv hk1.size
                have hl2 := heap_last w1 (.cells #[.int .i64 r.lo, .int .i64 r.hi] 23)
                have ho2 : Below w1.heap.size w1 (w1.alloc (.cells #[.int .i64 r.lo, .int .i64 r.hi] 23)) := (Below.refl _ _).alloc (Nat.le_refl _) (.cells #[.int .i64 r.lo, .int .i64 r.hi] 23)
                have HSL2 : Hid (∀ w', Below (w1.alloc (.cells #[.int .i64 r.lo, .int .i64 r.hi] 23)).heap.size (w1.alloc (.cells #[.int .i64 r.lo, .int .i64 r.hi] 23)) w' → w'.cell? ⟨gu, 0, none⟩ = some (.string NU) ∧ w'.cell? ⟨gu, 1, none⟩ = some (.string DU) ∧ w'.cell? ⟨gv, 0, none⟩ = some (.string NV) ∧ w'.cell? ⟨gv, 1, none⟩ = some (.string DV)) := fun w' h => ⟨((chain ho2 h).cell (p := ⟨gu, 0, none⟩) lu).trans cu0, ((chain ho2 h).cell (p := ⟨gu, 1, none⟩) lu).trans cu1, ((chain ho2 h).cell (p := ⟨gv, 0, none⟩) lv).trans cv0, ((chain ho2 h).cell (p := ⟨gv, 1, none⟩) lv).trans cv1⟩
                go_upto_region 10 with fail
                go_cut [19, 20] (fun pw ef wx => ∃ gw WN WD fe, pw = .pointer (some ⟨gw, 0, none⟩) ∧ ef = .int .i64 fe ∧ wx.cell? ⟨gw, 0, none⟩ = some (.string WN) ∧ wx.cell? ⟨gw, 1, none⟩ = some (.string WD) ∧ Below (w1.alloc (.cells #[.int .i64 r.lo, .int .i64 r.hi] 23)).heap.size (w1.alloc (.cells #[.int .i64 r.lo, .int .i64 r.hi] 23)) wx)
                case first => as_aux_lemma =>
                  (try clear cp0); (try clear cp1); (try clear cq0); (try clear cq1); (try clear cu0); (try clear cu1); (try clear cv0); (try clear cv1); (try clear lp); (try clear lq); (try clear lu); (try clear lv); (try clear z1); (try clear z2); (try clear z3); (try clear z4); (try clear u1); (try clear u2); (try clear v1); (try clear v2); (try clear lg1); (try clear lg2); (try clear lgu); (try clear lgv); (try clear hwd); (try clear hwdb); (try clear ob1); (try clear ob2); (try clear ob3); (try clear hi1); (try clear hi2); (try clear HR); (try clear HO); (try clear HH); (try clear HRO); (try clear HW); (try clear HAI); (try clear HAJ); (try clear HUI); (try clear HUJ); (try clear HSP); (try clear HSQ); (try clear oi); (try clear oj); (try clear ii); (try clear jj); (try clear hbr); (try clear O1); (try clear O2); (try clear HSZ); (try clear hW); (try clear HE); (try clear hW1); (try clear hbw); (try clear hWP); (try clear hWE); (try clear hbc); (try clear hbu); (try clear hbv); (try clear hs0); (try clear hs1'); (try clear ht0'); (try clear ht1'); (try clear hx0); (try clear hx1); (try clear hx2); (try clear hx3); (try clear hy0); (try clear hy1); (try clear hy2); (try clear hy3); (try clear hi4); (try clear hk1); (try clear hz1); (try clear hb1)
                  go_region_held3 (fun w' => w'.cell? ⟨gu, 0, none⟩ = some (.string NU) ∧ w'.cell? ⟨gu, 1, none⟩ = some (.string DU) ∧ w'.cell? ⟨gv, 0, none⟩ = some (.string NV) ∧ w'.cell? ⟨gv, 1, none⟩ = some (.string DV))
                    ((refine HSL2.out _ ?_; repeat (first | with_reducible exact Below.refl _ _ | with_reducible exact hd1 | (with_reducible refine Below.setCell ?_ (by first | omega | (simp <;> omega)) _) | (with_reducible refine Below.alloc ?_ (by first | omega | (simp <;> omega)) _) | with_reducible refine Below.drew ?_)))
                    (first
                      | (go_at_call 48; (refine (fdiv_all _ ?he NU DU NV DV _ _ HU.out HV.out).mono ?_); (case he => refine (HE4.out.toEnv.below hc1).below (chain ho2 ?_); repeat (first | with_reducible exact Below.refl _ _ | with_reducible exact hd1 | (with_reducible refine Below.setCell ?_ (by first | omega | (simp <;> omega)) _) | (with_reducible refine Below.alloc ?_ (by first | omega | (simp <;> omega)) _) | with_reducible refine Below.drew ?_)); rintro e v1 ⟨XN, XD, xe, rfl, hb1⟩; have hcl1 := (bcell hb1).1; have hfr1 := (bcell hb1).2; have hs1 := hb1.size; (try simp at hs1); (try have hu1 : w1.heap.size < v1.heap.size := by omega); (try have hu2 : w1.heap.size + 1 < v1.heap.size := by omega); have hd1 : Below (w1.alloc (.cells #[.int .i64 r.lo, .int .i64 r.hi] 23)).heap.size (w1.alloc (.cells #[.int .i64 r.lo, .int .i64 r.hi] 23)) v1 := (by refine Below.trans ?_ (hb1.mono (by first | omega | (simp <;> omega))); repeat (first | with_reducible exact Below.refl _ _ | with_reducible exact hd1 | (with_reducible refine Below.setCell ?_ (by first | omega | (simp <;> omega)) _) | (with_reducible refine Below.alloc ?_ (by first | omega | (simp <;> omega)) _) | with_reducible refine Below.drew ?_))))
                  all_goals (
                    go_wp2_with fail
                    go_meet
                    refine ⟨_, XN, XD, xe, rfl, rfl, ?_, ?_, ?_⟩
                    · first | (go_simp; done) | (go_simp; refine World.cell?_setCell_same (u := .string ⟨#[]⟩) _ _ _ ?_; go_simp; done) | (go_simp; refine (World.cell?_setCell_other _ _ _ _ (by simp <;> omega)).trans ?_; go_simp; done)
                    · first | (go_simp; done) | (go_simp; refine World.cell?_setCell_same (u := .string ⟨#[]⟩) _ _ _ ?_; go_simp; done) | (go_simp; refine (World.cell?_setCell_other _ _ _ _ (by simp <;> omega)).trans ?_; go_simp; done)
                    · repeat (first | with_reducible exact Below.refl _ _ | with_reducible exact hd1 | (with_reducible refine Below.setCell ?_ (by first | omega | (simp <;> omega)) _) | (with_reducible refine Below.alloc ?_ (by first | omega | (simp <;> omega)) _) | with_reducible refine Below.drew ?_))
                case rest =>
                  obtain ⟨gw, WN, WD, fe, rfl, rfl, cw0, cw1, hb2⟩ := hcut
                  obtain ⟨w2, rfl⟩ : ∃ x : World, x = wc := ⟨_, rfl⟩
                  have hk2 : Below w1.heap.size w1 w2 := chain ho2 hb2
                  have hc2 := chain hc1 hk2
                  have hz2 := hk2.size
                  have cp0 := (hk2.cell (p := ⟨g1, 0, none⟩) lp).trans cp0
                  have cp1 := (hk2.cell (p := ⟨g1, 1, none⟩) lp).trans cp1
                  have lp := Nat.lt_of_lt_of_le lp hk2.size
                  have cq0 := (hk2.cell (p := ⟨g2, 0, none⟩) lq).trans cq0
                  have cq1 := (hk2.cell (p := ⟨g2, 1, none⟩) lq).trans cq1
                  have lq := Nat.lt_of_lt_of_le lq hk2.size
                  have cu0 := (hk2.cell (p := ⟨gu, 0, none⟩) lu).trans cu0
                  have cu1 := (hk2.cell (p := ⟨gu, 1, none⟩) lu).trans cu1
                  have lu := Nat.lt_of_lt_of_le lu hk2.size
                  have cv0 := (hk2.cell (p := ⟨gv, 0, none⟩) lv).trans cv0
                  have cv1 := (hk2.cell (p := ⟨gv, 1, none⟩) lv).trans cv1
                  have lv := Nat.lt_of_lt_of_le lv hk2.size
                  have cr0 : w2.cell? ⟨w1.heap.size, 0, none⟩ = some (.int .i64 r.lo) := cell_later hl2 hb2
                  have cr1 : w2.cell? ⟨w1.heap.size, 1, none⟩ = some (.int .i64 r.hi) := cell_later hl2 hb2
                  have lr := World.block_lt_of_cell? _ _ cr0
                  clear hl2
                  have lw := World.block_lt_of_cell? _ _ cw0
                  go_wp2_with fail
                  go_roundw
                  case rel => exact ⟨4, by omega, by omega, (by first | rfl | go_num), hc2⟩
                  case measure => first | (simp [intOf]; done) | (simp [intOf] <;> omega) | decide
          · as_aux_lemma =>
            obtain ⟨q1, q2, q3⟩ := sqr_law HSP.out ii.out.1 ii.out.2
            have he := small_mul HSP.out HSP.out
            have hso := sqr_e q1
            obtain ⟨sl, sh, hs⟩ := BR.of_e q1
            obtain ⟨ml, mh, hm⟩ := BR.of_e he
            rw [hs] at q2 q3 hso
            rw [hm] at q3
            have hi1 : ml ≤ sl := q3.1
            have hi2 : sh ≤ mh := q3.2
            have HR := Lib.hid hs
            have HM := Lib.hid hm
            have HH := Lib.hid q2
            have HRO := Lib.hid hso
            have hft : fitsQ (mkRat i 1000000000000 * mkRat i 1000000000000) = true := fitsQ_mul oi.out oi.out
            obtain ⟨t1, t2, t3⟩ := told_vq hft
            obtain ⟨WN, hWN⟩ : ∃ x, toldS (mkRat i 1000000000000 * mkRat i 1000000000000).num = x := ⟨_, rfl⟩
            obtain ⟨WD, hWD⟩ : ∃ x, toldS ((mkRat i 1000000000000 * mkRat i 1000000000000).den : Int) = x := ⟨_, rfl⟩
            rw [hWN, hWD] at t1 t3
            have HT : Hid (Value.tuple #[toldQ (mkRat i 1000000000000 * mkRat i 1000000000000), .int .i64 (toldQE (mkRat i 1000000000000 * mkRat i 1000000000000))] = .tuple #[.agg #[.string WN, .string WD], .int .i64 0]) := by show _ = _; rw [t1, t2]
            have HW := Lib.hid t3
            clear t1 t2 t3 hWN hWD hft q1 q2 q3 he hso hs hm
            obtain ⟨w0, rfl⟩ : ∃ x : World, x = wr := ⟨_, rfl⟩
            have hc0 := hbr
            have cp0 := (hbr.cell (p := ⟨g1, 0, none⟩) lg1).trans z1
            have cp1 := (hbr.cell (p := ⟨g1, 1, none⟩) lg1).trans z2
            have lp := World.block_lt_of_cell? _ _ cp0
            have cu0 := (hbr.cell (p := ⟨gu, 0, none⟩) lgu).trans u1
            have cu1 := (hbr.cell (p := ⟨gu, 1, none⟩) lgu).trans u2
            have lu := World.block_lt_of_cell? _ _ cu0
            go_wp2_with fail
            refine (sqr_b _ a b).mono ?_
            rintro e w1 ⟨rfl, hb1⟩
            rw [HR.out]
            have hk1 := hb1
            have hc1 := chain hc0 hk1
            have hz1 := hk1.size
            have cp0 := (hk1.cell (p := ⟨g1, 0, none⟩) lp).trans cp0
            have cp1 := (hk1.cell (p := ⟨g1, 1, none⟩) lp).trans cp1
            have lp := Nat.lt_of_lt_of_le lp hk1.size
            have cu0 := (hk1.cell (p := ⟨gu, 0, none⟩) lu).trans cu0
            have cu1 := (hk1.cell (p := ⟨gu, 1, none⟩) lu).trans cu1
            have lu := Nat.lt_of_lt_of_le lu hk1.size
            go_wp2_with fail
            refine (fmul_any _ (HE4.out.toEnv.below (chain hc1 ((Below.refl _ _).alloc (Nat.le_refl _) _))) NU DU NU DU _ _ HU.out HU.out).mono ?_
            rintro e w2 ⟨rfl, hb2⟩
            rw [HT.out]
            have hl2 := heap_last w1 (.cells #[.int .i64 sl, .int .i64 sh] 23)
            have hk2 : Below w1.heap.size w1 w2 := chain ((Below.refl _ _).alloc (Nat.le_refl _) (.cells #[.int .i64 sl, .int .i64 sh] 23)) hb2
            have hc2 := chain hc1 hk2
            have hz2 := hk2.size
            have hq2 := hb2.size
            simp at hq2
            have cp0 := (hk2.cell (p := ⟨g1, 0, none⟩) lp).trans cp0
            have cp1 := (hk2.cell (p := ⟨g1, 1, none⟩) lp).trans cp1
            have lp := Nat.lt_of_lt_of_le lp hk2.size
            have cu0 := (hk2.cell (p := ⟨gu, 0, none⟩) lu).trans cu0
            have cu1 := (hk2.cell (p := ⟨gu, 1, none⟩) lu).trans cu1
            have lu := Nat.lt_of_lt_of_le lu hk2.size
            have cr0 : w2.cell? ⟨w1.heap.size, 0, none⟩ = some (.int .i64 sl) := cell_later hl2 hb2
            have cr1 : w2.cell? ⟨w1.heap.size, 1, none⟩ = some (.int .i64 sh) := cell_later hl2 hb2
            have lr := World.block_lt_of_cell? _ _ cr0
            clear hl2
            go_wp2_with fail
            refine (has_any _ (HE4.out.below (chain hc2 ((Below.refl _ _).alloc (Nat.le_refl _) _))) sl sh WN WD _ HW.out HRO.out).mono ?_
            rintro e w3 ⟨rfl, hb3⟩
            rw [HH.out]
            have hl3 := heap_last w2 (.cells #[.string WN, .string WD] 51)
            have hk3 : Below w2.heap.size w2 w3 := chain ((Below.refl _ _).alloc (Nat.le_refl _) (.cells #[.string WN, .string WD] 51)) hb3
            have hc3 := chain hc2 hk3
            have hz3 := hk3.size
            have hq3 := hb3.size
            simp at hq3
            have cp0 := (hk3.cell (p := ⟨g1, 0, none⟩) lp).trans cp0
            have cp1 := (hk3.cell (p := ⟨g1, 1, none⟩) lp).trans cp1
            have lp := Nat.lt_of_lt_of_le lp hk3.size
            have cu0 := (hk3.cell (p := ⟨gu, 0, none⟩) lu).trans cu0
            have cu1 := (hk3.cell (p := ⟨gu, 1, none⟩) lu).trans cu1
            have lu := Nat.lt_of_lt_of_le lu hk3.size
            have cr0 := (hk3.cell (p := ⟨w1.heap.size, 0, none⟩) lr).trans cr0
            have cr1 := (hk3.cell (p := ⟨w1.heap.size, 1, none⟩) lr).trans cr1
            have lr := Nat.lt_of_lt_of_le lr hk3.size
            have cw0 : w3.cell? ⟨w2.heap.size, 0, none⟩ = some (.string WN) := cell_later hl3 hb3
            have cw1 : w3.cell? ⟨w2.heap.size, 1, none⟩ = some (.string WD) := cell_later hl3 hb3
            have lw := World.block_lt_of_cell? _ _ cw0
            clear hl3
            go_wp2_with fail
            refine (mul_b _ a b a b).mono ?_
            rintro e w4 ⟨rfl, hb4⟩
            rw [HM.out]
            have hk4 := hb4
            have hc4 := chain hc3 hk4
            have hz4 := hk4.size
            have cp0 := (hk4.cell (p := ⟨g1, 0, none⟩) lp).trans cp0
            have cp1 := (hk4.cell (p := ⟨g1, 1, none⟩) lp).trans cp1
            have lp := Nat.lt_of_lt_of_le lp hk4.size
            have cu0 := (hk4.cell (p := ⟨gu, 0, none⟩) lu).trans cu0
            have cu1 := (hk4.cell (p := ⟨gu, 1, none⟩) lu).trans cu1
            have lu := Nat.lt_of_lt_of_le lu hk4.size
            have cr0 := (hk4.cell (p := ⟨w1.heap.size, 0, none⟩) lr).trans cr0
            have cr1 := (hk4.cell (p := ⟨w1.heap.size, 1, none⟩) lr).trans cr1
            have lr := Nat.lt_of_lt_of_le lr hk4.size
            have cw0 := (hk4.cell (p := ⟨w2.heap.size, 0, none⟩) lw).trans cw0
            have cw1 := (hk4.cell (p := ⟨w2.heap.size, 1, none⟩) lw).trans cw1
            have lw := Nat.lt_of_lt_of_le lw hk4.size
            go_wp2_with fail
            refine (inside_ok _ _ _ _ _ hi1 hi2).mono ?_
            rintro e w5 ⟨rfl, hb5⟩
            have hl5 := heap_last w4 (.cells #[.int .i64 ml, .int .i64 mh] 23)
            have hk5 : Below w4.heap.size w4 w5 := chain ((Below.refl _ _).alloc (Nat.le_refl _) (.cells #[.int .i64 ml, .int .i64 mh] 23)) hb5
            have hc5 := chain hc4 hk5
            have hz5 := hk5.size
            have hq5 := hb5.size
            simp at hq5
            have cp0 := (hk5.cell (p := ⟨g1, 0, none⟩) lp).trans cp0
            have cp1 := (hk5.cell (p := ⟨g1, 1, none⟩) lp).trans cp1
            have lp := Nat.lt_of_lt_of_le lp hk5.size
            have cu0 := (hk5.cell (p := ⟨gu, 0, none⟩) lu).trans cu0
            have cu1 := (hk5.cell (p := ⟨gu, 1, none⟩) lu).trans cu1
            have lu := Nat.lt_of_lt_of_le lu hk5.size
            have cr0 := (hk5.cell (p := ⟨w1.heap.size, 0, none⟩) lr).trans cr0
            have cr1 := (hk5.cell (p := ⟨w1.heap.size, 1, none⟩) lr).trans cr1
            have lr := Nat.lt_of_lt_of_le lr hk5.size
            have cw0 := (hk5.cell (p := ⟨w2.heap.size, 0, none⟩) lw).trans cw0
            have cw1 := (hk5.cell (p := ⟨w2.heap.size, 1, none⟩) lw).trans cw1
            have lw := Nat.lt_of_lt_of_le lw hk5.size
            have cm0 : w5.cell? ⟨w4.heap.size, 0, none⟩ = some (.int .i64 ml) := cell_later hl5 hb5
            have cm1 : w5.cell? ⟨w4.heap.size, 1, none⟩ = some (.int .i64 mh) := cell_later hl5 hb5
            have lm := World.block_lt_of_cell? _ _ cm0
            clear hl5
            go_wp2
            go_ret
            exact ⟨rfl, chain hWE hc5⟩


end Go.Proofs.YtkajibniibjblaaGreatDoor
