/-
  The reference's drafts: Small of a whole number.
  The reference's drafts: Short and Unit of a fraction.
  The reference's drafts: Unit of a fraction.
-/
import Derived.Test.YtkajibniibjblaaGreatDoorRef3
import Derived.Test.YtkajibniibjblaaGreatDoorHas
import Derived.Test.YtkajibniibjblaaGreatDoorDrafts
namespace Go.Proofs.YtkajibniibjblaaGreatDoor.P4
open Go.RowKit
set_option maxRecDepth 100000

theorem dsmall_any (w : World) (bl : Bool) (A : Option Addr) (n c : Nat) (z : Int) (xs : List Int) (hx : Rd w .u16 A n c xs) (hk : ∀ x ∈ xs, 0 ≤ x ∧ x ≤ 65535) :
    Calls Tryz.prog 82 #[.agg #[.bool bl, .slice A n c, .int .u16 z]] w fun e w' => ∃ v : Int, e = .returned (.int .i64 v) ∧ Hid (-1000000 < v ∧ v < 1000000) ∧ Below w.heap.size w w' := by
  have hcap := hx.cap
  have hmost := hx.most
  have hW : Below w.heap.size w (w.alloc (.cells #[.bool bl, .slice A n c, .int .u16 z] 54)) := ((Below.refl w.heap.size w).alloc (Nat.le_refl _) _)
  have o1 := heap_last w (.cells #[.bool bl, .slice A n c, .int .u16 z] 54)
  have O1 := Lib.hid o1
  clear o1
  have hsz : (w.alloc (.cells #[.bool bl, .slice A n c, .int .u16 z] 54)).heap.size = w.heap.size + 1 := by simp
  have HSZ := Lib.hid hsz
  clear hsz
  have hx1 := hx.below hW
  go_enter Tryz.func82, Tryz.ntmps82
  go_wp2
  go_loop [3, 4] (fun s t => ∃ (k : Nat) (v : Int), k ≤ n ∧ k ≤ 2 ∧ t = .int .i64 k ∧ s = .int .i64 v ∧ 0 ≤ v ∧ v < 1000 ^ k) (fun _ t => (2 - intOf t).toNat)
  case atStart => exact ⟨0, 0, Nat.zero_le _, by omega, rfl, rfl, by omega, by decide⟩
  case round =>
    obtain ⟨k, v, hkn, hk2, rfl, rfl, hv0, hv1⟩ := hrel
    have hvk : v < 1000000 := by
      rcases k with _ | _ | _ | k
      · simp at hv1; omega
      · simp at hv1; omega
      · simp at hv1; omega
      · omega
    by_cases h0 : k < n
    · by_cases h2 : k < 2
      · obtain ⟨b, off, d, rfl, hd, hb, hc⟩ := hx1.get h0
        have hdr := hk d (List.mem_of_getElem? hd)
        have hm0 := Int.emod_nonneg d (show (1000 : Int) ≠ 0 by decide)
        have hm1 := Int.emod_lt_of_pos d (show (0 : Int) < 1000 by decide)
        have hvs : v < 1000 := by
          rcases k with _ | _ | k
          · simp at hv1; omega
          · simp at hv1; omega
          · omega
        have hnew : v * 1000 + d % 1000 < 1000 ^ (k + 1) := by
          rw [Int.pow_succ]; omega
        have HN := Lib.hid hnew
        clear hnew hv1
        go_wp2
        go_round
        case rel => exact ⟨k + 1, v * 1000 + d % 1000, by omega, by omega, by go_num, by go_num, by omega, HN.out⟩
        case measure => simp [intOf]; omega
      · obtain rfl : k = 2 := by omega
        have h3 : (2 : Int) < (n : Int) := by omega
        have h4 : ((2 : Nat) : Int) < (n : Int) := by omega
        cases bl
        · go_wp2
          go_ret
          exact ⟨v, rfl, (by show _ ∧ _; omega), hW⟩
        · go_wp2
          go_ret
          exact ⟨-v, by go_num, (by show _ ∧ _; omega), hW⟩
    · obtain rfl : k = n := by omega
      cases bl
      · go_wp2
        go_ret
        exact ⟨v, rfl, (by show _ ∧ _; omega), hW⟩
      · go_wp2
        go_ret
        exact ⟨-v, by go_num, (by show _ ∧ _; omega), hW⟩
end Go.Proofs.YtkajibniibjblaaGreatDoor.P4

namespace Go.Proofs.YtkajibniibjblaaGreatDoor.P4
open Go.RowKit
set_option maxRecDepth 100000

/-- A call returned a small fraction. -/
def RetS (w : World) : Ending → World → Prop := fun e w' =>
  ∃ (z : Int) (b : Nat), e = .returned (toldQ (mkRat z b)) ∧ Hid (0 < b ∧ b ≤ 65535 ∧ z.natAbs ≤ 65535) ∧ Below w.heap.size w w'
theorem toldQ_form (q : Rat) : ∃ S D, toldQ q = .agg #[.string S, .string D] := by
  rw [toldQ]; split
  · exact ⟨_, _, rfl⟩
  · exact ⟨_, _, rfl⟩

theorem short_any (w : World) (bl : Bool) (A : Option Addr) (n c : Nat) (z : Int) (xs : List Int) (hx : Rd w .u16 A n c xs) (hk : ∀ x ∈ xs, 0 ≤ x ∧ x ≤ 65535)
    (bm : Bool) (B : Option Addr) (m d : Nat) (y : Int) (ys : List Int) (hy : Rd w .u16 B m d ys) (hl : ∀ x ∈ ys, 0 ≤ x ∧ x ≤ 65535) :
    Calls Tryz.prog 34 #[.agg #[.bool bl, .slice A n c, .int .u16 z, .bool bm, .slice B m d, .int .u16 y]] w (RetS w) := by
  have hW : Below w.heap.size w ((w.alloc (.cells #[.bool bl, .slice A n c, .int .u16 z, .bool bm, .slice B m d, .int .u16 y] 56)).alloc (.cells #[.string ⟨#[]⟩, .string ⟨#[]⟩] 51)) := (((Below.refl w.heap.size w).alloc (Nat.le_refl _) _).alloc (by simp <;> omega) _)
  have o1 := heap_more (heap_last w (.cells #[.bool bl, .slice A n c, .int .u16 z, .bool bm, .slice B m d, .int .u16 y] 56)) (.cells #[.string ⟨#[]⟩, .string ⟨#[]⟩] 51)
  have O1 := Lib.hid o1
  clear o1
  have o2 := heap_last (w.alloc (.cells #[.bool bl, .slice A n c, .int .u16 z, .bool bm, .slice B m d, .int .u16 y] 56)) (.cells #[.string ⟨#[]⟩, .string ⟨#[]⟩] 51)
  rw [show (w.alloc (.cells #[.bool bl, .slice A n c, .int .u16 z, .bool bm, .slice B m d, .int .u16 y] 56)).heap.size = w.heap.size + 1 by simp] at o2
  have O2 := Lib.hid o2
  clear o2
  have hsz : ((w.alloc (.cells #[.bool bl, .slice A n c, .int .u16 z, .bool bm, .slice B m d, .int .u16 y] 56)).alloc (.cells #[.string ⟨#[]⟩, .string ⟨#[]⟩] 51)).heap.size = w.heap.size + 1 + 1 := by simp
  have HSZ := Lib.hid hsz
  clear hsz
  have hx1 := hx.below hW
  have hy1 := hy.below hW
  go_enter Tryz.func34, Tryz.ntmps34
  go_wp2_with fail
  refine (dsmall_any _ bm B m d y ys hy1 hl).mono ?_
  rintro e w1 ⟨v2, rfl, hv2, hb1⟩
  have HX := Lib.hid (hx1.below hb1)
  clear hx1 hy1
  have hv2' := hv2.out
  have hq2 := tmod_bd v2 60 (by decide)
  have hq3 := tmod_bd (-v2) 60 (by decide)
  have x0 := cell_later (j := 0) O1.out hb1
  have x1 := cell_later (j := 1) O1.out hb1
  have x2 := cell_later (j := 2) O1.out hb1
  simp at x0 x1 x2
  by_cases h0 : v2 < 0
  · have hp : 0 ≤ Int.tmod (-v2) 60 := Int.tmod_nonneg _ (by omega)
    rw [Int.neg_tmod] at hp
    obtain ⟨b, hb⟩ : ∃ b : Nat, 1 + -v2.tmod 60 = (b : Int) := ⟨(1 + -v2.tmod 60).toNat, by omega⟩
    have HB := Lib.hid hb
    have HB0 : Hid (0 < b ∧ b ≤ 60) := by show _ ∧ _; omega
    clear hb
    go_wp2_with fail
    refine (dsmall_any _ bl A n c z xs HX.out hk).mono ?_
    rintro e w2 ⟨v1, rfl, hv1, hb2⟩
    have hv1' := hv1.out
    have hq1 := tmod_bd v1 1000 (by decide)
    go_wp2_with fail
    rw [HB.out]
    refine (rquick_any _ (v1.tmod 1000) b (by omega) (by omega) HB0.out.1 (by have := HB0.out; omega)).mono ?_
    rintro e w3 ⟨bq, A1, l1, c1, B1, m1, d1, rfl, hs, hn, hd, hw3⟩
    go_wp2_with fail
    refine (rout_any _ bq A1 l1 c1 B1 m1 d1 (mkRat (v1.tmod 1000) b) hs hn hd (by omega)).mono ?_
    rintro e w4 ⟨rfl, hw4⟩
    obtain ⟨S, D, hSD⟩ := toldQ_form (mkRat (v1.tmod 1000) b)
    have HSD := Lib.hid hSD
    rw [hSD]
    have hb5 := chain (chain (chain hb1 hb2) hw3) hw4
    have hW5 := chain hW hb5
    have hbs := hW5.size
    have y1 := cell_later (j := 0) O2.out hb5
    have y2 := cell_later (j := 1) O2.out hb5
    have g1 := frozen_later O2.out hb5 0
    have g2 := frozen_later O2.out hb5 1
    simp at y1 y2
    have hbt := hb5.size
    simp at hbt
    have hs1 : w.heap.size + 1 < w4.heap.size := by omega
    have hb6 := hb5.alloc (by simp; omega) (.cells #[.string S, .string D] 51)
    have z1 := cell_later (j := 0) O2.out hb6
    have z2 := cell_later (j := 1) O2.out hb6
    have k1 := frozen_later O2.out hb6 0
    have k2 := frozen_later O2.out hb6 1
    simp at z1 z2
    have HQ : Hid (0 < b ∧ b ≤ 65535 ∧ (v1.tmod 1000).natAbs ≤ 65535) := by
      have := HB0.out
      show _ ∧ _ ∧ _
      omega
    clear hSD hv1' hq1
    go_wp2
    refine bodyPost_ret (v := .agg #[.string S, .string D]) (by simp [results, Tryz.results34, go_sem]; go_simp) rfl ⟨v1.tmod 1000, b, by rw [HSD.out], HQ, ?_⟩
    repeat (first | with_reducible exact hW5 | (with_reducible refine Below.setCell ?_ (by first | omega | (simp <;> omega)) _) | (with_reducible refine Below.alloc ?_ (by first | omega | (simp <;> omega)) _))
  · have hp := Int.emod_nonneg v2 (show (60 : Int) ≠ 0 by decide)
    have hp2 := Int.emod_lt_of_pos v2 (show (0 : Int) < 60 by decide)
    obtain ⟨b, hb⟩ : ∃ b : Nat, 1 + v2 % 60 = (b : Int) := ⟨(1 + v2 % 60).toNat, by omega⟩
    have HB := Lib.hid hb
    have HB0 : Hid (0 < b ∧ b ≤ 60) := by show _ ∧ _; omega
    clear hb
    go_wp2_with fail
    refine (dsmall_any _ bl A n c z xs HX.out hk).mono ?_
    rintro e w2 ⟨v1, rfl, hv1, hb2⟩
    have hv1' := hv1.out
    have hq1 := tmod_bd v1 1000 (by decide)
    go_wp2_with fail
    rw [HB.out]
    refine (rquick_any _ (v1.tmod 1000) b (by omega) (by omega) HB0.out.1 (by have := HB0.out; omega)).mono ?_
    rintro e w3 ⟨bq, A1, l1, c1, B1, m1, d1, rfl, hs, hn, hd, hw3⟩
    go_wp2_with fail
    refine (rout_any _ bq A1 l1 c1 B1 m1 d1 (mkRat (v1.tmod 1000) b) hs hn hd (by omega)).mono ?_
    rintro e w4 ⟨rfl, hw4⟩
    obtain ⟨S, D, hSD⟩ := toldQ_form (mkRat (v1.tmod 1000) b)
    have HSD := Lib.hid hSD
    rw [hSD]
    have hb5 := chain (chain (chain hb1 hb2) hw3) hw4
    have hW5 := chain hW hb5
    have hbs := hW5.size
    have y1 := cell_later (j := 0) O2.out hb5
    have y2 := cell_later (j := 1) O2.out hb5
    have g1 := frozen_later O2.out hb5 0
    have g2 := frozen_later O2.out hb5 1
    simp at y1 y2
    have hbt := hb5.size
    simp at hbt
    have hs1 : w.heap.size + 1 < w4.heap.size := by omega
    have hb6 := hb5.alloc (by simp; omega) (.cells #[.string S, .string D] 51)
    have z1 := cell_later (j := 0) O2.out hb6
    have z2 := cell_later (j := 1) O2.out hb6
    have k1 := frozen_later O2.out hb6 0
    have k2 := frozen_later O2.out hb6 1
    simp at z1 z2
    have HQ : Hid (0 < b ∧ b ≤ 65535 ∧ (v1.tmod 1000).natAbs ≤ 65535) := by
      have := HB0.out
      show _ ∧ _ ∧ _
      omega
    clear hSD hv1' hq1
    go_wp2
    refine bodyPost_ret (v := .agg #[.string S, .string D]) (by simp [results, Tryz.results34, go_sem]; go_simp) rfl ⟨v1.tmod 1000, b, by rw [HSD.out], HQ, ?_⟩
    repeat (first | with_reducible exact hW5 | (with_reducible refine Below.setCell ?_ (by first | omega | (simp <;> omega)) _) | (with_reducible refine Below.alloc ?_ (by first | omega | (simp <;> omega)) _))
end Go.Proofs.YtkajibniibjblaaGreatDoor.P4

namespace Go.Proofs.YtkajibniibjblaaGreatDoor.P4
open Go.RowKit
set_option maxRecDepth 100000

theorem rquick_int (w : World) (z bI : Int) (b : Nat) (hb : Hid (bI = (b : Int))) (h0 : -9223372036854775808 ≤ z) (h1 : z ≤ 9223372036854775807) (hb0 : 0 < b) (hb1 : b ≤ 9223372036854775807) :
    Calls Tryz.prog 83 #[.int .i64 z, .int .i64 bI] w (RetR w 5 (mkRat z b)) := by
  rw [hb.out]; exact rquick_any w z b h0 h1 hb0 hb1

set_option maxHeartbeats 2000000 in
theorem unit_any (w : World) (bl : Bool) (A : Option Addr) (n c : Nat) (z : Int) (xs : List Int) (hx : Rd w .u16 A n c xs) (hk : ∀ x ∈ xs, 0 ≤ x ∧ x ≤ 65535)
    (bm : Bool) (B : Option Addr) (m d : Nat) (y : Int) (ys : List Int) (hy : Rd w .u16 B m d ys) (hl : ∀ x ∈ ys, 0 ≤ x ∧ x ≤ 65535) :
    Calls Tryz.prog 35 #[.agg #[.bool bl, .slice A n c, .int .u16 z, .bool bm, .slice B m d, .int .u16 y]] w (RetS w) := by
  have hW : Below w.heap.size w ((w.alloc (.cells #[.bool bl, .slice A n c, .int .u16 z, .bool bm, .slice B m d, .int .u16 y] 56)).alloc (.cells #[.string ⟨#[]⟩, .string ⟨#[]⟩] 51)) := (((Below.refl w.heap.size w).alloc (Nat.le_refl _) _).alloc (by simp <;> omega) _)
  have o1 := heap_more (heap_last w (.cells #[.bool bl, .slice A n c, .int .u16 z, .bool bm, .slice B m d, .int .u16 y] 56)) (.cells #[.string ⟨#[]⟩, .string ⟨#[]⟩] 51)
  have O1 := Lib.hid o1
  clear o1
  have o2 := heap_last (w.alloc (.cells #[.bool bl, .slice A n c, .int .u16 z, .bool bm, .slice B m d, .int .u16 y] 56)) (.cells #[.string ⟨#[]⟩, .string ⟨#[]⟩] 51)
  rw [show (w.alloc (.cells #[.bool bl, .slice A n c, .int .u16 z, .bool bm, .slice B m d, .int .u16 y] 56)).heap.size = w.heap.size + 1 by simp] at o2
  have O2 := Lib.hid o2
  clear o2
  have hsz : ((w.alloc (.cells #[.bool bl, .slice A n c, .int .u16 z, .bool bm, .slice B m d, .int .u16 y] 56)).alloc (.cells #[.string ⟨#[]⟩, .string ⟨#[]⟩] 51)).heap.size = w.heap.size + 1 + 1 := by simp
  have HSZ := Lib.hid hsz
  clear hsz
  have HX1 := Lib.hid (hx.below hW)
  have HY1 := Lib.hid (hy.below hW)
  have hLE : w.heap.size + 1 ≤ ((w.alloc (.cells #[.bool bl, .slice A n c, .int .u16 z, .bool bm, .slice B m d, .int .u16 y] 56)).alloc (.cells #[.string ⟨#[]⟩, .string ⟨#[]⟩] 51)).heap.size := by simp
  have HS : Hid (∀ w', Below (w.heap.size + 1) ((w.alloc (.cells #[.bool bl, .slice A n c, .int .u16 z, .bool bm, .slice B m d, .int .u16 y] 56)).alloc (.cells #[.string ⟨#[]⟩, .string ⟨#[]⟩] 51)) w' → w'.cell? ⟨w.heap.size, 0, none⟩ = some (.bool bl) ∧ w'.cell? ⟨w.heap.size, 1, none⟩ = some (.slice A n c) ∧ w'.cell? ⟨w.heap.size, 2, none⟩ = some (.int .u16 z) ∧ w'.cell? ⟨w.heap.size, 3, none⟩ = some (.bool bm) ∧ w'.cell? ⟨w.heap.size, 4, none⟩ = some (.slice B m d) ∧ w'.cell? ⟨w.heap.size, 5, none⟩ = some (.int .u16 y)) := fun w' h => ⟨cell_at O1.out (by omega) h, cell_at O1.out (by omega) h, cell_at O1.out (by omega) h, cell_at O1.out (by omega) h, cell_at O1.out (by omega) h, cell_at O1.out (by omega) h⟩
  have hd0 : Below ((w.alloc (.cells #[.bool bl, .slice A n c, .int .u16 z, .bool bm, .slice B m d, .int .u16 y] 56)).alloc (.cells #[.string ⟨#[]⟩, .string ⟨#[]⟩] 51)).heap.size ((w.alloc (.cells #[.bool bl, .slice A n c, .int .u16 z, .bool bm, .slice B m d, .int .u16 y] 56)).alloc (.cells #[.string ⟨#[]⟩, .string ⟨#[]⟩] 51)) ((w.alloc (.cells #[.bool bl, .slice A n c, .int .u16 z, .bool bm, .slice B m d, .int .u16 y] 56)).alloc (.cells #[.string ⟨#[]⟩, .string ⟨#[]⟩] 51)).drew := (Below.refl _ _).drew
  go_enter Tryz.func35, Tryz.ntmps35
  go_wp2_with fail
  go_region_held3 (fun w' => w'.cell? ⟨w.heap.size, 0, none⟩ = some (.bool bl) ∧ w'.cell? ⟨w.heap.size, 1, none⟩ = some (.slice A n c) ∧ w'.cell? ⟨w.heap.size, 2, none⟩ = some (.int .u16 z) ∧ w'.cell? ⟨w.heap.size, 3, none⟩ = some (.bool bm) ∧ w'.cell? ⟨w.heap.size, 4, none⟩ = some (.slice B m d) ∧ w'.cell? ⟨w.heap.size, 5, none⟩ = some (.int .u16 y))
    ((refine HS.out _ ?_; repeat (first | with_reducible exact hd0.mono hLE | with_reducible exact Below.mono hb1 hLE | with_reducible exact Below.mono hb2 hLE)))
    (first
      | (go_at_call 82; (refine (dsmall_any _ bm B m d y ys (HY1.out.below hb1) hl).mono ?_); rintro e w2 ⟨v2, rfl, hv2, hb2'⟩; have hb2 := chain hb1 hb2')
      | (go_at_call 82; (refine (dsmall_any _ bl A n c z xs (HX1.out.below hd0) hk).mono ?_); rintro e w1 ⟨v1, rfl, hv1, hb1'⟩; have hb1 := chain hd0 hb1'))
  have hv1' := hv1.out
  have hv2' := hv2.out
  by_cases h1 : v1 < 0
  · by_cases h2 : v2 < 0
    · obtain ⟨bI, hbI⟩ : ∃ bI : Int, 65535 = bI := ⟨_, rfl⟩
      obtain ⟨b, hb⟩ : ∃ b : Nat, bI = (b : Int) := ⟨bI.toNat, by omega⟩
      have HB := Lib.hid hb
      have HB0 : Hid (0 < b ∧ b ≤ 65535) := by show _ ∧ _; omega
      have HBI := Lib.hid hbI
      obtain ⟨r, hr⟩ : ∃ r, -v1.tmod 65536 = r := ⟨_, rfl⟩
      have HR := Lib.hid hr
      have HRB : Hid (r.natAbs ≤ 65535) := by
        have := tmod_bd v1 65536 (by omega)
        show _ ≤ _
        omega
      clear hr hb hbI
      go_wp2_with fail
      rw [HR.out, HBI.out]
      refine (rquick_int _ r bI b HB (by have := HRB.out; omega) (by have := HRB.out; omega) HB0.out.1 (by have := HB0.out; omega)).mono ?_
      rintro e w3 ⟨bq, A1, l1, c1, B1, m1, d1, rfl, hs, hn, hd, hw3⟩
      go_wp2_with fail
      refine (rout_any _ bq A1 l1 c1 B1 m1 d1 (mkRat r b) hs hn hd (by omega)).mono ?_
      rintro e w4 ⟨rfl, hw4⟩
      obtain ⟨S, D, hSD⟩ := toldQ_form (mkRat r b)
      have HSD := Lib.hid hSD
      rw [hSD]
      have hb5 := chain (chain hb2 hw3) hw4
      have hW5 := chain hW hb5
      have hbs := hW5.size
      have y1 := cell_later (j := 0) O2.out hb5
      have y2 := cell_later (j := 1) O2.out hb5
      have g1 := frozen_later O2.out hb5 0
      have g2 := frozen_later O2.out hb5 1
      simp at y1 y2
      have hbt := hb5.size
      simp at hbt
      have hs1 : w.heap.size + 1 < w4.heap.size := by omega
      have hb6 := hb5.alloc (by simp; omega) (.cells #[.string S, .string D] 51)
      have z1 := cell_later (j := 0) O2.out hb6
      have z2 := cell_later (j := 1) O2.out hb6
      have k1 := frozen_later O2.out hb6 0
      have k2 := frozen_later O2.out hb6 1
      simp at z1 z2
      have HQ : Hid (0 < b ∧ b ≤ 65535 ∧ r.natAbs ≤ 65535) := by
        have := HB0.out
        have := HRB.out
        show _ ∧ _ ∧ _
        omega
      clear hSD
      go_wp2
      refine bodyPost_ret (v := .agg #[.string S, .string D]) (by simp [results, Tryz.results35, go_sem]; go_simp) rfl ⟨r, b, by rw [HSD.out], HQ, ?_⟩
      repeat (first | with_reducible exact hW5 | (with_reducible refine Below.setCell ?_ (by first | omega | (simp <;> omega)) _) | (with_reducible refine Below.alloc ?_ (by first | omega | (simp <;> omega)) _))
    · have hp1 := Int.emod_nonneg v2 (show (60 : Int) ≠ 0 by decide)
      have hp2 := Int.emod_lt_of_pos v2 (show (0 : Int) < 60 by decide)
      obtain ⟨bI, hbI⟩ : ∃ bI : Int, 1 + v2 % 60 = bI := ⟨_, rfl⟩
      obtain ⟨b, hb⟩ : ∃ b : Nat, bI = (b : Int) := ⟨bI.toNat, by omega⟩
      have HB := Lib.hid hb
      have HB0 : Hid (0 < b ∧ b ≤ 65535) := by show _ ∧ _; omega
      have HBI := Lib.hid hbI
      obtain ⟨r, hr⟩ : ∃ r, -v1.tmod (1 + v2 % 60 + 1) = r := ⟨_, rfl⟩
      have HR := Lib.hid hr
      have HRB : Hid (r.natAbs ≤ 65535) := by
        have := tmod_bd v1 (1 + v2 % 60 + 1) (by omega)
        show _ ≤ _
        omega
      clear hr hb hbI
      go_wp2_with fail
      rw [HR.out, HBI.out]
      refine (rquick_int _ r bI b HB (by have := HRB.out; omega) (by have := HRB.out; omega) HB0.out.1 (by have := HB0.out; omega)).mono ?_
      rintro e w3 ⟨bq, A1, l1, c1, B1, m1, d1, rfl, hs, hn, hd, hw3⟩
      go_wp2_with fail
      refine (rout_any _ bq A1 l1 c1 B1 m1 d1 (mkRat r b) hs hn hd (by omega)).mono ?_
      rintro e w4 ⟨rfl, hw4⟩
      obtain ⟨S, D, hSD⟩ := toldQ_form (mkRat r b)
      have HSD := Lib.hid hSD
      rw [hSD]
      have hb5 := chain (chain hb2 hw3) hw4
      have hW5 := chain hW hb5
      have hbs := hW5.size
      have y1 := cell_later (j := 0) O2.out hb5
      have y2 := cell_later (j := 1) O2.out hb5
      have g1 := frozen_later O2.out hb5 0
      have g2 := frozen_later O2.out hb5 1
      simp at y1 y2
      have hbt := hb5.size
      simp at hbt
      have hs1 : w.heap.size + 1 < w4.heap.size := by omega
      have hb6 := hb5.alloc (by simp; omega) (.cells #[.string S, .string D] 51)
      have z1 := cell_later (j := 0) O2.out hb6
      have z2 := cell_later (j := 1) O2.out hb6
      have k1 := frozen_later O2.out hb6 0
      have k2 := frozen_later O2.out hb6 1
      simp at z1 z2
      have HQ : Hid (0 < b ∧ b ≤ 65535 ∧ r.natAbs ≤ 65535) := by
        have := HB0.out
        have := HRB.out
        show _ ∧ _ ∧ _
        omega
      clear hSD
      go_wp2
      refine bodyPost_ret (v := .agg #[.string S, .string D]) (by simp [results, Tryz.results35, go_sem]; go_simp) rfl ⟨r, b, by rw [HSD.out], HQ, ?_⟩
      repeat (first | with_reducible exact hW5 | (with_reducible refine Below.setCell ?_ (by first | omega | (simp <;> omega)) _) | (with_reducible refine Below.alloc ?_ (by first | omega | (simp <;> omega)) _))
  · by_cases h2 : v2 < 0
    · obtain ⟨bI, hbI⟩ : ∃ bI : Int, 65535 = bI := ⟨_, rfl⟩
      obtain ⟨b, hb⟩ : ∃ b : Nat, bI = (b : Int) := ⟨bI.toNat, by omega⟩
      have HB := Lib.hid hb
      have HB0 : Hid (0 < b ∧ b ≤ 65535) := by show _ ∧ _; omega
      have HBI := Lib.hid hbI
      obtain ⟨r, hr⟩ : ∃ r, v1 % 65536 = r := ⟨_, rfl⟩
      have HR := Lib.hid hr
      have HRB : Hid (r.natAbs ≤ 65535) := by
        have := Int.emod_nonneg v1 (show (65536 : Int) ≠ 0 by omega)
        have := Int.emod_lt_of_pos v1 (show (0 : Int) < 65536 by omega)
        show _ ≤ _
        omega
      clear hr hb hbI
      go_wp2_with fail
      rw [HR.out, HBI.out]
      refine (rquick_int _ r bI b HB (by have := HRB.out; omega) (by have := HRB.out; omega) HB0.out.1 (by have := HB0.out; omega)).mono ?_
      rintro e w3 ⟨bq, A1, l1, c1, B1, m1, d1, rfl, hs, hn, hd, hw3⟩
      go_wp2_with fail
      refine (rout_any _ bq A1 l1 c1 B1 m1 d1 (mkRat r b) hs hn hd (by omega)).mono ?_
      rintro e w4 ⟨rfl, hw4⟩
      obtain ⟨S, D, hSD⟩ := toldQ_form (mkRat r b)
      have HSD := Lib.hid hSD
      rw [hSD]
      have hb5 := chain (chain hb2 hw3) hw4
      have hW5 := chain hW hb5
      have hbs := hW5.size
      have y1 := cell_later (j := 0) O2.out hb5
      have y2 := cell_later (j := 1) O2.out hb5
      have g1 := frozen_later O2.out hb5 0
      have g2 := frozen_later O2.out hb5 1
      simp at y1 y2
      have hbt := hb5.size
      simp at hbt
      have hs1 : w.heap.size + 1 < w4.heap.size := by omega
      have hb6 := hb5.alloc (by simp; omega) (.cells #[.string S, .string D] 51)
      have z1 := cell_later (j := 0) O2.out hb6
      have z2 := cell_later (j := 1) O2.out hb6
      have k1 := frozen_later O2.out hb6 0
      have k2 := frozen_later O2.out hb6 1
      simp at z1 z2
      have HQ : Hid (0 < b ∧ b ≤ 65535 ∧ r.natAbs ≤ 65535) := by
        have := HB0.out
        have := HRB.out
        show _ ∧ _ ∧ _
        omega
      clear hSD
      go_wp2
      refine bodyPost_ret (v := .agg #[.string S, .string D]) (by simp [results, Tryz.results35, go_sem]; go_simp) rfl ⟨r, b, by rw [HSD.out], HQ, ?_⟩
      repeat (first | with_reducible exact hW5 | (with_reducible refine Below.setCell ?_ (by first | omega | (simp <;> omega)) _) | (with_reducible refine Below.alloc ?_ (by first | omega | (simp <;> omega)) _))
    · have hp1 := Int.emod_nonneg v2 (show (60 : Int) ≠ 0 by decide)
      have hp2 := Int.emod_lt_of_pos v2 (show (0 : Int) < 60 by decide)
      obtain ⟨bI, hbI⟩ : ∃ bI : Int, 1 + v2 % 60 = bI := ⟨_, rfl⟩
      obtain ⟨b, hb⟩ : ∃ b : Nat, bI = (b : Int) := ⟨bI.toNat, by omega⟩
      have HB := Lib.hid hb
      have HB0 : Hid (0 < b ∧ b ≤ 65535) := by show _ ∧ _; omega
      have HBI := Lib.hid hbI
      obtain ⟨r, hr⟩ : ∃ r, v1 % (1 + v2 % 60 + 1) = r := ⟨_, rfl⟩
      have HR := Lib.hid hr
      have HRB : Hid (r.natAbs ≤ 65535) := by
        have := Int.emod_nonneg v1 (show ((1 + v2 % 60 + 1) : Int) ≠ 0 by omega)
        have := Int.emod_lt_of_pos v1 (show (0 : Int) < (1 + v2 % 60 + 1) by omega)
        show _ ≤ _
        omega
      clear hr hb hbI
      go_wp2_with fail
      rw [HR.out, HBI.out]
      refine (rquick_int _ r bI b HB (by have := HRB.out; omega) (by have := HRB.out; omega) HB0.out.1 (by have := HB0.out; omega)).mono ?_
      rintro e w3 ⟨bq, A1, l1, c1, B1, m1, d1, rfl, hs, hn, hd, hw3⟩
      go_wp2_with fail
      refine (rout_any _ bq A1 l1 c1 B1 m1 d1 (mkRat r b) hs hn hd (by omega)).mono ?_
      rintro e w4 ⟨rfl, hw4⟩
      obtain ⟨S, D, hSD⟩ := toldQ_form (mkRat r b)
      have HSD := Lib.hid hSD
      rw [hSD]
      have hb5 := chain (chain hb2 hw3) hw4
      have hW5 := chain hW hb5
      have hbs := hW5.size
      have y1 := cell_later (j := 0) O2.out hb5
      have y2 := cell_later (j := 1) O2.out hb5
      have g1 := frozen_later O2.out hb5 0
      have g2 := frozen_later O2.out hb5 1
      simp at y1 y2
      have hbt := hb5.size
      simp at hbt
      have hs1 : w.heap.size + 1 < w4.heap.size := by omega
      have hb6 := hb5.alloc (by simp; omega) (.cells #[.string S, .string D] 51)
      have z1 := cell_later (j := 0) O2.out hb6
      have z2 := cell_later (j := 1) O2.out hb6
      have k1 := frozen_later O2.out hb6 0
      have k2 := frozen_later O2.out hb6 1
      simp at z1 z2
      have HQ : Hid (0 < b ∧ b ≤ 65535 ∧ r.natAbs ≤ 65535) := by
        have := HB0.out
        have := HRB.out
        show _ ∧ _ ∧ _
        omega
      clear hSD
      go_wp2
      refine bodyPost_ret (v := .agg #[.string S, .string D]) (by simp [results, Tryz.results35, go_sem]; go_simp) rfl ⟨r, b, by rw [HSD.out], HQ, ?_⟩
      repeat (first | with_reducible exact hW5 | (with_reducible refine Below.setCell ?_ (by first | omega | (simp <;> omega)) _) | (with_reducible refine Below.alloc ?_ (by first | omega | (simp <;> omega)) _))
end Go.Proofs.YtkajibniibjblaaGreatDoor.P4
