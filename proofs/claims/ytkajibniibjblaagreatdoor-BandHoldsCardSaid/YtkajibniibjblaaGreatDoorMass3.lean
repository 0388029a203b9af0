/-
  whole.Mass: Clone, Minus.
-/
import Derived.Test.YtkajibniibjblaaGreatDoorMass2
import Derived.WalkSpells
namespace Go.Proofs.YtkajibniibjblaaGreatDoor
open Go.RowKit
set_option maxRecDepth 100000

theorem clone_any (w : World) (A : Option Addr) (n c : Nat) (xs : List Int) (h : Rd w .u64 A n c xs) (hn : n ≤ 1000000000000) :
    Calls Tryz.prog 192 #[.slice A n c] w fun e w' => ∃ A' c', e = .returned (.slice A' n c') ∧ OwnS w' .u64 143 w.heap.size A' n c' xs ∧ Below w.heap.size w w' := by
  rcases A with _ | ad
  · have h0 := h.nil_ rfl
    have h1 := h.cap
    obtain rfl : n = 0 := by omega
    subst h0
    have hx : xs = [] := List.eq_nil_of_length_eq_zero h.len
    subst hx
    have hnil := fun (W : World) => Lib.run_eql_slice_nil (P := Tryz.prog) W 114 143 none 0 0 0 0 Tryz.underlying114
    go_enter Tryz.func192, Tryz.ntmps192
    go_wp2
    go_ret
    exact ⟨none, 0, rfl, OwnS.nil _ _ _ _, Below.refl _ _⟩
  · have hnil := fun (W : World) => Lib.run_eql_slice_nil (P := Tryz.prog) W 114 143 (some ad) n c 0 0 Tryz.underlying114
    have hb0 : Below w.heap.size w (w.alloc (.cells #[] 143)) := (Below.refl _ _).alloc (Nat.le_refl _) _
    have ho0 := OwnS.made w .u64 143 [] (by simp)
    go_enter Tryz.func192, Tryz.ntmps192
    go_wp2_with (at_builtin; refine wpList_append rfl (.tmp 5) (.tmp 6) 114 rfl 143 .u64 8 Tryz.underlying114 infoU64 w.heap.size (some ⟨w.heap.size, 0, none⟩) 0 0 [] rfl ho0 (some ad) n c xs rfl (h.below hb0) (by omega) (by omega) (by simp) ?_; intro A1 c1 w1 hown1 hbel1 _)
    go_ret
    simp only [Nat.zero_add, List.nil_append] at hown1
    exact ⟨A1, c1, rfl, hown1, hb0.trans hbel1⟩

theorem minus_any (w : World) {La Lb : Nat} (A B : Option Addr) (n m c d : Nat) (a b : Nat) (ha : Ms w La A n c a) (hb : Ms w Lb B m d b) (hle : b ≤ a) (hL : La ≤ 1000000000000) :
    Calls Tryz.prog 175 #[.slice A n c, .slice B m d] w (RetM w La (a - b)) := by
  obtain ⟨hla, xs, hx, nx⟩ := ha
  obtain ⟨hlb, ys, hy, ny⟩ := hb
  have hnM : n ≤ 1000000000000 := by omega
  have hmn : m ≤ n := by
    rcases Nat.lt_or_ge n m with h | h
    · have := nx.lt_of_len ny (by rw [hx.len, hy.len]; exact h)
      omega
    · exact h
  go_enter Tryz.func175, Tryz.ntmps175
  go_wp2_with (go_at_call 192; refine (clone_any _ _ _ _ _ hx (by omega)).mono ?_; rintro e w1 ⟨A1, c1, rfl, hown1, hbel1⟩)
  go_loopw [6, 13] (fun bv t wr => ∃ (k : Nat) (bo : Int), k ≤ n ∧ t = .int .i64 (k : Int) ∧ bv = .int .u64 bo ∧ 0 ≤ bo ∧ bo ≤ 1 ∧ (∃ cs, (0 < n → ∃ g, A1 = some ⟨g, 0, none⟩ ∧ w.heap.size ≤ g ∧ n ≤ c1 ∧ c1 ≤ 9223372036854775807 ∧ Own wr .u64 143 g cs) ∧ MinA n a ys k bo cs) ∧ Below w.heap.size w wr) (fun _ t _ => n - (intOf t).toNat)
  case atStart => exact ⟨0, 0, Nat.zero_le _, rfl, rfl, by omega, by omega, ⟨_, fun h => hown1.own h, MinA.start nx hx.len⟩, hbel1⟩
  case round =>
    have hr1 := hown1.rd
    have hfr := hown1.fresh
    obtain ⟨k, bo, hk, rfl, rfl, b0, b1, ⟨cs, hown, hP⟩, hbw⟩ := hrel
    by_cases hlt : k < n
    · obtain ⟨g, rfl, hg1, hcc, hcm, hO⟩ := hown (by omega)
      have hl : k < cs.length := by rw [hP.len]; omega
      have hxk : Hid (cs[k]? = some cs[k]) := List.getElem?_eq_getElem hl
      generalize cs[k] = x at *
      have hc2 := hO.cell hxk.out
      have hf2 := hO.frozen k
      have x1 := (hP.dig.get hxk.out).1
      have x2 := (hP.dig.get hxk.out).2
      clear hown hown1 hr1 hfr
      by_cases hkm : k < m
      · obtain ⟨b1, o1, y, rfl, hyk, hb1, hc1⟩ := (hy.below hbw).get hkm
        have y1 := (ny.dig.get hyk).1
        have y2 := (ny.dig.get hyk).2
        have HY : Hid _ := val_take_succ hyk
        clear hyk
        by_cases hcmp : x < bo + y
        · have HP := hP.step (bo' := 1) (x' := x + 1000000000000000000 - (bo + y)) hxk.out HY.out (by omega) (by omega) (by omega)
          go_wp2
          go_roundw
          case rel =>
            have HO := (hO.set_ k (x + 1000000000000000000)).set_ k (x + 1000000000000000000 - (bo + y))
            rw [List.set_set] at HO
            exact ⟨k + 1, 1, by omega, by go_num, rfl, by omega, by omega, ⟨_, fun _ => ⟨g, rfl, hg1, hcc, hcm, HO⟩, HP⟩, (hbw.setCell hg1 _).setCell hg1 _⟩
          case measure => simp [intOf]; omega
        · have HP := hP.step (bo' := 0) (x' := x - (bo + y)) hxk.out HY.out (by omega) (by omega) (by omega)
          go_wp2
          go_roundw
          case rel => exact ⟨k + 1, 0, by omega, by go_num, rfl, by omega, by omega, ⟨_, fun _ => ⟨g, rfl, hg1, hcc, hcm, hO.set_ k _⟩, HP⟩, hbw.setCell hg1 _⟩
          case measure => simp [intOf]; omega
      · have HY : Hid _ := val_take_late (ys := ys) (k := k) (by rw [hy.len]; omega)
        by_cases hcmp : x < bo
        · have HP := hP.step (bo' := 1) (x' := x + 1000000000000000000 - bo) hxk.out HY.out (by omega) (by omega) (by omega)
          go_wp2
          go_roundw
          case rel =>
            have HO := (hO.set_ k (x + 1000000000000000000)).set_ k (x + 1000000000000000000 - bo)
            rw [List.set_set] at HO
            exact ⟨k + 1, 1, by omega, by go_num, rfl, by omega, by omega, ⟨_, fun _ => ⟨g, rfl, hg1, hcc, hcm, HO⟩, HP⟩, (hbw.setCell hg1 _).setCell hg1 _⟩
          case measure => simp [intOf]; omega
        · have HP := hP.step (bo' := 0) (x' := x - bo) hxk.out HY.out (by omega) (by omega) (by omega)
          go_wp2
          go_roundw
          case rel => exact ⟨k + 1, 0, by omega, by go_num, rfl, by omega, by omega, ⟨_, fun _ => ⟨g, rfl, hg1, hcc, hcm, hO.set_ k _⟩, HP⟩, hbw.setCell hg1 _⟩
          case measure => simp [intOf]; omega
    · obtain rfl : k = n := by omega
      have hv := hP.done ny (by rw [hy.len]; exact hmn) hle (by omega)
      have hR : Rd wr .u64 A1 k c1 cs := by
        rcases Nat.eq_zero_or_pos k with h0 | h0
        · subst h0
          have := hr1.nil_
          exact ⟨hP.len, by omega, hr1.most, this, fun j d hd => by have := (List.getElem?_eq_some_iff.1 hd).1; have := hP.len; omega⟩
        · obtain ⟨g, rfl, hg1, hcc, hcm, hO⟩ := hown h0
          exact hO.rd hP.len hcc hcm
      have hd := hP.dig
      clear hP hown hown1 hr1
      have hfr : Hid _ := hfr
      go_wp2_with (go_at_call 170; refine (trim_ms _ _ _ _ _ hR hd hv).mono ?_; rintro e w' ⟨l', rfl, hms, rfl⟩)
      go_ret
      exact ⟨_, _, _, rfl, hms.mono hla, hbw, hfr.out⟩

end Go.Proofs.YtkajibniibjblaaGreatDoor
