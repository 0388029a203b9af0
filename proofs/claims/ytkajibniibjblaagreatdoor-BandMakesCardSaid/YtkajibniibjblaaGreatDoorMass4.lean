/-
  whole.Mass: by, one, Times.
-/
import Derived.Test.YtkajibniibjblaaGreatDoorMassA
import Derived.Test.YtkajibniibjblaaGreatDoorBits
namespace Go.Proofs.YtkajibniibjblaaGreatDoor
open Go.RowKit
set_option maxRecDepth 100000

theorem one_any (w : World) (x : Nat) (hx : x < 1000000000000000000) :
    Calls Tryz.prog 174 #[.int .u64 x] w (RetM w 1 x) := by
  have hb0 : Below w.heap.size w (w.alloc (.cells #[.int .u64 x] 143)) := (Below.refl _ _).alloc (Nat.le_refl _) _
  have ho0 := OwnS.made w .u64 143 [(x : Int)] (by simp)
  have hR := ho0.rd
  go_enter Tryz.func174, Tryz.ntmps174
  go_wp2_with (go_at_call 170; refine (trim_ms _ _ _ _ _ hR (Dig.cons.2 ⟨by omega, Dig.nil⟩) (v := x) (by simp [val])).mono ?_; rintro e w' ⟨l', rfl, hms, rfl⟩)
  go_ret
  exact ⟨_, _, _, rfl, hms, hb0, fun ad e => by injection e with e; rw [← e]; exact Nat.le_refl _⟩

theorem one_i (w : World) (y : Int) (x : Nat) (hy : y = x) (hx : x < 1000000000000000000) :
    Calls Tryz.prog 174 #[.int .u64 y] w (RetM w 1 x) := by
  subst hy
  exact one_any w x hx

/-- by: quotient and remainder. -/
def ByR (La : Nat) (a d : Nat) (w : World) (e : Ending) (w' : World) : Prop :=
  ∃ A l c, ∃ r : Nat, e = .returned (.tuple #[.slice A l c, .int .u64 (r : Int)]) ∧ Hid (r = a % d) ∧ Ms w' La A l c (a / d) ∧ Below w.heap.size w w' ∧ ∀ ad, A = some ad → w.heap.size ≤ ad.block

theorem by_tot {hi lo s o rest x : Int} (hm : hi * W64 + lo = rest * 1000000000000000000) (hs : s + o * W64 = lo + x) : (hi + o) * W64 + s = rest * 1000000000000000000 + x := by grind
theorem by_hi {hi lo s o rest x d : Int} (hm : hi * W64 + lo = rest * 1000000000000000000) (hs : s + o * W64 = lo + x) (x1 : x < 1000000000000000000) (r0 : 0 ≤ rest) (r1 : rest < d) (hd : d ≤ 1000000000000000000) (s0 : 0 ≤ s) : hi + o < d := by
  unfold W64 at *
  omega
theorem by_any (w : World) {La : Nat} (A : Option Addr) (n c : Nat) (a d : Nat) (ha : Ms w La A n c a) (hd : 0 < d) (hd1 : d ≤ 1000000000000000000) (hL : La ≤ 1000000000000) :
    Calls Tryz.prog 191 #[.slice A n c, .int .u64 d] w (ByR La a d w) := by
  obtain ⟨hla, xs, hx, nx⟩ := ha
  have hnM : n ≤ 1000000000000 := by omega
  go_enter Tryz.func191, Tryz.ntmps191
  go_wp2_with (at_make; refine wpList_make _ rfl _ _ 114 rfl 143 .u64 8 Tryz.underlying114 infoU64 n rfl rfl (by omega) (by omega) ?_; intro g w1 hown1 _ hbel1 hg1 _)
  have hw1 : Rd w1 .u64 A n c xs := hx.below hbel1
  go_loopw [7, 8] (fun rv t wr => ∃ (k : Nat) (rest : Int), k ≤ n ∧ t = .int .i64 ((k : Int) - 1) ∧ rv = .int .u64 rest ∧ (∃ cs, Own wr .u64 143 g cs ∧ ByA n xs d k rest cs) ∧ Below w.heap.size w wr) (fun _ t _ => (intOf t + 1).toNat)
  case atStart => exact ⟨n, 0, Nat.le_refl _, rfl, rfl, ⟨_, hown1, ByA.start hx.len (by omega)⟩, hbel1⟩
  case round =>
    clear hown1 hw1
    obtain ⟨k, rest, hk, rfl, rfl, ⟨cs, hown, hP⟩, hbw⟩ := hrel
    have r0 := hP.r0
    have r1 := hP.r1
    by_cases h0 : 0 < k
    · obtain ⟨i, rfl⟩ : ∃ i, k = i + 1 := ⟨k - 1, by omega⟩
      obtain ⟨b1, o1, x, rfl, hxk, hb1, hc1⟩ := (hx.below hbw).get (j := i) (by omega)
      have x0 := (nx.dig.get hxk).1
      have x1 := (nx.dig.get hxk).2
      have HX : Hid _ := hxk
      clear hxk
      have hl : i < cs.length := by rw [hP.len]; omega
      have hc2 := hown.cell (List.getElem?_eq_getElem hl)
      have hf2 := hown.frozen i
      generalize cs[i] = old at hc2
      have hgl : g < wr.heap.size := hown.lt
      go_wp2_with (first
        | (go_at_call 117; go_must (refine (mul64_any rest 1000000000000000000 (by omega) (by omega) (by omega) (by omega) _).mono ?_; rintro e w' ⟨hi, lo, rfl, hm, hi0, lo0, lo1, rfl⟩; obtain ⟨s, o, hadd, s0, s1, o0, o1', hs⟩ := add64_ex lo x lo0 lo1 (by omega) (by omega); have hlt : hi + o < d := by_hi hm.out hs.out x1 r0 r1 (by omega) s0; have htot : Hid ((hi + o) * W64 + s = rest * 1000000000000000000 + x) := by_tot hm.out hs.out))
        | (go_at_call 119; refine (div64_any (hi + o) s d _ (by omega) hlt (by omega) s0 s1).mono ?_; rintro e w2 ⟨q, r, rfl, hq, q0, q1, r0', r1', hbel2⟩; have hc3 := (hbel2.cell (p := ⟨g, i, none⟩) hgl).trans hc2; have hf3 := (hbel2.frozen (p := ⟨g, i, none⟩) hgl).trans hf2))
      go_roundw
      case rel => exact ⟨i, r, by omega, rfl, rfl, ⟨_, (hown.after hbel2).set_ i q, hP.step (by omega) HX.out x0 x1 (hq.out.trans htot.out) q0 r0' r1'⟩, (hbw.trans (hbel2.mono hbw.size)).setCell hg1 _⟩
      case measure => simp [intOf]
    · obtain rfl : k = 0 := by omega
      have he : Hid _ := hP.eq
      have hR := hown.rd hP.len (Nat.le_refl _) (by omega)
      have HV : Hid (val cs = ((a / d : Nat) : Int) ∧ rest = ((a % d : Nat) : Int)) := by
        have e := he.out
        simp only [List.drop_zero, nx.val_] at e
        obtain ⟨r, rfl⟩ := Int.eq_ofNat_of_zero_le r0
        obtain ⟨v, hv⟩ := Int.eq_ofNat_of_zero_le (val_nonneg hP.dig)
        rw [hv] at e ⊢
        have e2 : v * d + r = a := by
          have : ((v * d + r : Nat) : Int) = a := by rw [Int.natCast_add, Int.natCast_mul]; exact e
          omega
        have hr : r < d := by omega
        subst e2
        refine ⟨?_, ?_⟩
        · rw [Nat.mul_comm, Nat.mul_add_div hd, Nat.div_eq_of_lt hr]; simp
        · rw [Nat.mul_comm, Nat.mul_add_mod, Nat.mod_eq_of_lt hr]
      have hd' := hP.dig
      go_wp2_with (go_at_call 170; refine (trim_ms _ _ _ _ _ hR hd' HV.out.1).mono ?_; rintro e w' ⟨l', rfl, hms, rfl⟩)
      go_ret2
      exact ⟨_, _, _, a % d, by rw [HV.out.2]; rfl, rfl, hms.mono hla, hbw, fun ad e => by injection e with e; rw [← e]; exact hg1⟩

theorem times_tot {hi lo s1 o1 s2 o2 x y c z : Int} (hm : hi * W64 + lo = x * y) (h1 : s1 + o1 * W64 = lo + c) (h2 : s2 + o2 * W64 = s1 + z) : (hi + o1 + o2) * W64 + s2 = x * y + c + z := by grind
theorem times_hi {H s x y c z : Int} (h : H * W64 + s = x * y + c + z) (x0 : 0 ≤ x) (x1 : x < 1000000000000000000) (y0 : 0 ≤ y) (y1 : y < 1000000000000000000) (c1 : c < 1000000000000000000) (z1 : z < 1000000000000000000) (s0 : 0 ≤ s) : H < 1000000000000000000 := by
  have hm := mul_lt_sq x0 x1 y0 y1
  unfold W64 at h
  omega
set_option maxHeartbeats 400000 in
theorem times_any (w : World) {La Lb : Nat} (A B : Option Addr) (n m c d : Nat) (a b : Nat) (ha : Ms w La A n c a) (hb : Ms w Lb B m d b) (hL : La + Lb ≤ 1000000000000) :
    Calls Tryz.prog 135 #[.slice A n c, .slice B m d] w (RetM w (La + Lb) (a * b)) := by
  obtain ⟨hla, xs, hx, nx⟩ := ha
  obtain ⟨hlb, ys, hy, ny⟩ := hb
  have hnM : n + m ≤ 1000000000000 := by omega
  go_enter Tryz.func135, Tryz.ntmps135
  go_wp2_with (at_make; refine wpList_make _ rfl _ _ 114 rfl 143 .u64 8 Tryz.underlying114 infoU64 (n + m) rfl rfl (by omega) (by omega) ?_; intro g w1 hown1 _ hbel1 hg1 _)
  go_loopw [22] (fun t wr => ∃ (i : Nat), i ≤ n ∧ t = .int .i64 (i : Int) ∧ (∃ cs, Own wr .u64 143 g cs ∧ TimesA (n + m) m xs b i cs) ∧ Below w.heap.size w wr) (fun t _ => n - (intOf t).toNat)
  case atStart => exact ⟨0, Nat.zero_le _, rfl, ⟨_, hown1, TimesA.start _ _ _ _⟩, hbel1⟩
  case round =>
    clear hown1
    obtain ⟨wo, rfl⟩ : ∃ wo : World, wo = wr := ⟨_, rfl⟩
    obtain ⟨i, hi, rfl, ⟨cs, hown, hP⟩, hbw⟩ := hrel
    by_cases hlt : i < n
    · obtain ⟨b1, o1, x, rfl, hxk, hb1, hc1⟩ := (hx.below hbw).get (j := i) hlt
      have x0 := (nx.dig.get hxk).1
      have x1 := (nx.dig.get hxk).2
      have HX : Hid _ := hxk
      clear hxk
      have hQ := hP.inner x ys
      clear hP
      go_wp2
      go_loopw [8, 29] (fun cv t wr => ∃ (j : Nat) (ca : Int), j ≤ m ∧ t = .int .i64 (j : Int) ∧ cv = .int .u64 ca ∧ (∃ cs, Own wr .u64 143 g cs ∧ TimesB (n + m) m (val (xs.take i) * b) x ys i j ca cs) ∧ Below w.heap.size w wr) (fun _ t _ => m - (intOf t).toNat)
      case atStart => exact ⟨0, 0, Nat.zero_le _, rfl, rfl, ⟨_, hown, hQ⟩, hbw⟩
      case round =>
        clear hown hQ hc1 hbw
        obtain ⟨j, ca, hj, rfl, rfl, ⟨cs, hown, hP⟩, hbw⟩ := hrel
        have c0 := hP.c0
        have c1 := hP.c1
        have hl : i + j < cs.length := by rw [hP.len]; omega
        have HZ : Hid (cs[i + j]? = some cs[i + j]) := List.getElem?_eq_getElem hl
        generalize cs[i + j] = z at HZ
        have z0 := (hP.dig.get HZ.out).1
        have z1 := (hP.dig.get HZ.out).2
        have hc2 := hown.cell HZ.out
        have hf2 := hown.frozen (i + j)
        have hgl : g < wr.heap.size := hown.lt
        by_cases hjm : j < m
        · obtain ⟨b2, o2, y, rfl, hyk, hb2, hc3⟩ := (hy.below hbw).get (j := j) hjm
          have y0 := (ny.dig.get hyk).1
          have y1 := (ny.dig.get hyk).2
          have HY : Hid _ := hyk
          clear hyk
          go_wp2_with (first
            | (go_at_call 117; go_must (refine (mul64_any x y x0 (by omega) y0 (by omega) _).mono ?_; rintro e w' ⟨hi, lo, rfl, hm, hi0, lo0, lo1, rfl⟩; obtain ⟨s1, p1, ha1, s10, s11, p10, p11, hs1⟩ := add64_ex lo ca lo0 lo1 (by omega) (by omega); obtain ⟨s2, p2, ha2, s20, s21, p20, p21, hs2⟩ := add64_ex s1 z s10 s11 (by omega) (by omega); have htot : Hid _ := times_tot hm.out hs1.out hs2.out; have hlt2 := times_hi htot.out x0 x1 y0 y1 c1 z1 s20))
            | (go_at_call 119; go_must (refine (div64_any (hi + p1 + p2) s2 1000000000000000000 _ (by omega) hlt2 (by omega) s20 s21).mono ?_; rintro e w2 ⟨q, r, rfl, hq, q0, q1, r0', r1', hbel2⟩; have hc4 := (hbel2.cell (p := ⟨g, i + j, none⟩) hgl).trans hc2; have hf4 := (hbel2.frozen (p := ⟨g, i + j, none⟩) hgl).trans hf2)))
          go_roundw
          case rel => exact ⟨j + 1, q, by omega, by go_num, rfl, ⟨_, (hown.after hbel2).set_ (i + j) r, hP.step hjm HY.out HZ.out x0 x1 y0 y1 (hq.out.trans htot.out) q0 r0' r1'⟩, (hbw.trans (hbel2.mono hbw.size)).setCell hg1 _⟩
          case measure => simp [intOf] <;> omega
        · obtain rfl : j = m := by omega
          go_wp2
          go_roundw
          case rel => exact ⟨i + 1, by omega, by go_num, ⟨_, hown.set_ (i + j) ca, hP.done HX.out ny hy.len HZ.out⟩, hbw.setCell hg1 _⟩
          case measure => simp [intOf] <;> omega
    · obtain rfl : i = n := by omega
      have hR := hown.rd hP.len (Nat.le_refl _) (by omega)
      have hd' := hP.dig
      have HV : Hid (val cs = ((a * b : Nat) : Int)) := by
        have hv := hP.val_
        rw [show xs.take i = xs from List.take_of_length_le (by rw [hx.len]; omega), nx.val_] at hv
        show _ = _
        rw [hv, Int.natCast_mul]
      clear hP
      go_wp2_with (go_at_call 170; refine (trim_ms _ _ _ _ _ hR hd' HV.out).mono ?_; rintro e w' ⟨l', rfl, hms, rfl⟩)
      go_ret
      exact ⟨_, _, _, rfl, hms.mono (by omega), hbw, fun ad e => by injection e with e; rw [← e]; exact hg1⟩

end Go.Proofs.YtkajibniibjblaaGreatDoor
