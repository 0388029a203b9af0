/-
  whole: Mass.Digits, Number.Told.
-/
import Derived.Test.YtkajibniibjblaaGreatDoorText
import Derived.Test.YtkajibniibjblaaGreatDoorFmt
import Derived.Test.YtkajibniibjblaaGreatDoorBuilder
import Derived.BigQuiet
import Derived.BigGuardPart
import Derived.Outline
import Derived.Deep.DeepCutAuto
import Derived.Deep.CutBlock
namespace Go.Proofs.YtkajibniibjblaaGreatDoor
open Go.RowKit
set_option maxRecDepth 100000

theorem digits_any (w : World) (henv : Env w) {L : Nat} (A : Option Addr) (n c a : Nat) (ha : Ms w L A n c a) (hL : L ≤ 1000000000000) :
    Calls Tryz.prog 139 #[.slice A n c] w fun e w' => ∃ k : Nat, e = .returned (.int .i64 k) ∧ Hid (k = Lib.nDigits a) ∧ Below w.heap.size w w' := by
  obtain ⟨hl, xs, hx, nx⟩ := ha
  by_cases h0 : n = 0
  · subst h0
    have hxs : xs = [] := List.eq_nil_of_length_eq_zero hx.len
    have ha : a = 0 := nx.zero_iff.2 hxs
    go_enter Tryz.func139, Tryz.ntmps139
    go_wp2
    go_ret
    exact ⟨1, rfl, by show _ = _; rw [ha, Lib.nDigits_small (by omega)], Below.refl _ _⟩
  · obtain ⟨b1, o1, d, rfl, hd, hb1, hc1⟩ := hx.get (j := n - 1) (by omega)
    have hdd := nx.dig.get hd
    have hdg := nx.digits (k := n - 1) (by rw [hx.len]; omega) hd
    obtain ⟨d, rfl⟩ := Int.eq_ofNat_of_zero_le hdd.1
    have hd1 : d < 18446744073709551616 := by omega
    rw [Int.toNat_natCast] at hdg
    have hk := nDigits_lt (u := d) (k := 18) (by rw [pow18]; omega) (by omega)
    have hsz : (⟨(Lib.decDigits d).toArray⟩ : ByteArray).size = Lib.nDigits d := by rw [← Lib.decDigits_length]; rfl
    have hn0 : ((n : Int) == 0) = false := by simp; omega
    have HG : Hid _ := hdg
    clear hdg hdd hd
    obtain ⟨nd, hnd⟩ : ∃ nd, nd = Lib.nDigits d := ⟨_, rfl⟩
    rw [← hnd] at hk hsz
    have HN : Hid _ := hnd
    clear hnd
    obtain ⟨S, hS⟩ : ∃ S : ByteArray, S = ⟨(Lib.decDigits d).toArray⟩ := ⟨_, rfl⟩
    rw [← hS] at hsz
    have HS : Hid _ := hS
    clear hS
    go_enter Tryz.func139, Tryz.ntmps139
    go_wp2_with (go_at_call 141; refine (fmt_any d hd1 _ henv).mono ?_; rintro e w1 ⟨rfl, hb⟩; rw [← HS.out])
    go_ret
    exact ⟨18 * (n - 1) + nd, by show Ending.returned (Value.int IntKind.i64 (18 * ((n : Int) - 1) + nd)) = _; rw [show (18 * ((n : Int) - 1) + nd) = ((18 * (n - 1) + nd : Nat) : Int) by omega], by show _ = _; rw [HG.out, HN.out], hb⟩

theorem envB {B : Nat} {w w' : World} (h : Env w) (hB : 2 < B) (hb : Below B w w') : Env w' := ⟨var?_below hb tabBlock hB h.tab⟩

theorem ownsRow_after {w w' : World} {B E s n : Nat} {v : Value} {xs : List Value} (h : w.ownsRow B E s v n xs) (hb : Below w.heap.size w w') : w'.ownsRow B E s v n xs := by
  refine ⟨h.1, ?_⟩
  rcases h.2 with h0 | ⟨g, cap, cur, hv, hg, hh, r⟩
  · exact .inl h0
  · refine .inr ⟨g, cap, cur, hv, hg, ?_, r⟩
    rw [hb.block g (Array.getElem?_eq_some_iff.1 hh).1]
    exact hh
theorem builderAt_after {T e B b : Nat} {p : Value} {bs : List Value} {w w' : World} (h : Lib.BuilderAt T e B b p bs w) (hb : Below w.heap.size w w') : Lib.BuilderAt T e B b p bs w' := by
  obtain ⟨h1, v, h2, h3, h4⟩ := h
  refine ⟨h1, v, ?_, ownsRow_after h3 hb, h4⟩
  rw [hb.block b (Array.getElem?_eq_some_iff.1 h2).1]
  exact h2
theorem builder_after {T e B b : Nat} {bs : List Value} {w w' : World} (h : Lib.IsBuilder T e B b bs w) (hb : Below w.heap.size w w') : Lib.IsBuilder T e B b bs w' := by
  rcases h with h | h
  · exact .inl (builderAt_after h hb)
  · exact .inr (builderAt_after h hb)

theorem write_any (B b : Nat) (l : List UInt8) (n wd : Nat) (w : World) (henv : Env w) (h : Lib.IsBuilder 169 5 B b (Lib.byteCells l) w)
    (hn : n < 18446744073709551616) (hwd : wd ≤ 18) (hlen : l.length ≤ 1000000000000) (hBw : B ≤ w.heap.size) :
    Calls Tryz.prog 140 #[.int .u64 n, .int .i64 wd, .pointer (some ⟨b, 0, none⟩)] w fun e w' =>
      e = .returned (.tuple #[]) ∧ Lib.BuilderAt 169 5 B b (.pointer (some ⟨b, 0, none⟩)) (Lib.byteCells (l ++ pad wd n)) w' ∧ Below B w w' := by
  have hsz : (⟨(Lib.decDigits n).toArray⟩ : ByteArray).size = Lib.nDigits n := by rw [← Lib.decDigits_length]; rfl
  have hk := nDigits_lt (u := n) (k := 20) (by omega) (by omega)
  obtain ⟨nd, hnd⟩ : ∃ nd, nd = Lib.nDigits n := ⟨_, rfl⟩
  rw [← hnd] at hk hsz
  have HN : Hid _ := hnd
  clear hnd
  obtain ⟨S, hS⟩ : ∃ S : ByteArray, S = ⟨(Lib.decDigits n).toArray⟩ := ⟨_, rfl⟩
  rw [← hS] at hsz
  have HS : Hid _ := hS
  clear hS
  go_enter Tryz.func140, Tryz.ntmps140
  have HM : Hid (max ((wd : Int) - (nd : Int)) 0 = ((wd - nd : Nat) : Int)) := by show _ = _; omega
  have hrl : (Lib.repeatL [48] (wd - nd)).length ≤ 18 := by rw [repeatL_one, List.length_replicate]; omega
  have HB : Hid (Lib.byteCells l ++ Lib.strCells (⟨(Lib.repeatL [48] (wd - nd)).toArray⟩ ++ S) = Lib.byteCells (l ++ pad wd n)) := by
    show _ = _
    rw [Lib.strCells_eq, ← Lib.byteCells_append, pad, repeatL_one, HS.out, HN.out]
    congr 2
  go_wp2_with (first
    | (go_at_call 141; go_must (refine (fmt_any n hn _ henv).mono ?_; rintro e w1 ⟨rfl, hb⟩; rw [← HS.out]))
    | (go_at_call 143; go_must (rw [HM.out]; refine (Tryz.strings_Repeat ⟨#[48]⟩ (wd - nd) _ (by omega) (by show 1 * (wd - nd) ≤ _; omega)).mono ?_; rintro e w2 ⟨rfl, hb2⟩; have h2 := builder_after (builder_after h hb) hb2))
    | (go_at_call 142; go_must (refine (writeString_any B b _ _ _ h2 (by rw [Lib.byteCells_length, ByteArray.size_append, hsz]; show l.length + ((Lib.repeatL [48] (wd - nd)).length + nd) ≤ _; omega) (Nat.le_trans hBw (Nat.le_trans hb.size hb2.size))).mono ?_; rintro e w3 ⟨rfl, hB3, hb3⟩)))
  go_end0
  exact ⟨rfl, by rw [← HB.out]; exact hB3, (hb.mono hBw |>.trans (hb2.mono (Nat.le_trans hBw hb.size))).trans hb3⟩

theorem write_i (B b : Nat) (l : List UInt8) (ni wi : Int) (n wd : Nat) (hni : ni = n) (hwi : wi = wd) (w : World) (henv : Env w) (h : Lib.IsBuilder 169 5 B b (Lib.byteCells l) w)
    (hn : n < 18446744073709551616) (hwd : wd ≤ 18) (hlen : l.length ≤ 1000000000000) (hBw : B ≤ w.heap.size) :
    Calls Tryz.prog 140 #[.int .u64 ni, .int .i64 wi, .pointer (some ⟨b, 0, none⟩)] w fun e w' =>
      e = .returned (.tuple #[]) ∧ Lib.BuilderAt 169 5 B b (.pointer (some ⟨b, 0, none⟩)) (Lib.byteCells (l ++ pad wd n)) w' ∧ Below B w w' := by
  subst hni hwi
  exact write_any B b l n wd w henv h hn hwd hlen hBw
theorem builder_new (w : World) (T e : TypeId) : Lib.IsBuilder T e w.heap.size w.heap.size (Lib.byteCells []) (w.alloc (.cells #[.pointer none, .slice none 0 0] T)) :=
  .inl ⟨Nat.le_refl _, .slice none 0 0, heap_alloc_new _ _, World.ownsRow_nil _ _ _ _, by simp [Value.ownBlock]⟩

/-- A signed number as a text, if it is not too long; else an error. -/
def fits (z : Int) : Bool := decide (Lib.nDigits z.natAbs ≤ 600)
def toldS (z : Int) : ByteArray := if fits z then ⟨(Lib.itoa z).toArray⟩ else ⟨#[]⟩
def toldE (z : Int) : Int := if fits z then 0 else 6
def ToldR (z : Int) (w : World) (e : Ending) (w' : World) : Prop := e = .returned (.tuple #[.string (toldS z), .int .i64 (toldE z)]) ∧ Below w.heap.size w w'

theorem told_fin {z : Int} {l : List UInt8} (hf : fits z = true) (hl : l = Lib.itoa z) : Ending.returned (.tuple #[.string ⟨l.toArray⟩, .int .i64 0]) = .returned (.tuple #[.string (toldS z), .int .i64 (toldE z)]) := by
  rw [toldS, toldE, if_pos hf, if_pos hf, hl]
theorem fits_zero : fits 0 = true := by
  have : Lib.nDigits 0 = 1 := Lib.nDigits_small (by decide)
  simp [fits, this]
theorem pad_zero : ([] : List UInt8) ++ pad 1 0 = Lib.itoa 0 := by
  have := Lib.nDigits_small (show 0 < 10 by omega)
  rw [show (0 : Int) = ((0 : Nat) : Int) from rfl, Lib.itoa_nonneg]
  simp [pad, this]

theorem told_long (w : World) (henv : Env w) {L : Nat} (bl : Bool) (A : Option Addr) (n c : Nat) (z : Int) (ha : Ms w L A n c z.natAbs) (hL : L ≤ 1000000000000) (hf : fits z = false) :
    Calls Tryz.prog 89 #[.agg #[.bool bl, .slice A n c]] w (ToldR z w) := by
  have hb0 : Below w.heap.size w (w.alloc (.cells #[.bool bl, .slice A n c] 116)) := (Below.refl _ _).alloc (Nat.le_refl _) _
  have hf2 : ¬ Lib.nDigits z.natAbs ≤ 600 := by simpa [fits] using hf
  go_enter Tryz.func89, Tryz.ntmps89
  go_wp2_with (go_at_call 139; go_must (refine (digits_any _ (henv.below hb0) _ _ _ _ (ha.below hb0) hL).mono ?_; rintro e w1 ⟨k, rfl, hk, hb1⟩; have hk6 : 600 < k := (by rw [hk.out]; omega)))
  go_ret2
  exact ⟨by rw [toldS, toldE, hf]; rfl, chain hb0 hb1⟩

theorem told_zero (w : World) (henv : Env w) {L : Nat} (A : Option Addr) (c : Nat) (ha : Ms w L A 0 c 0) (hL : L ≤ 1000000000000) :
    Calls Tryz.prog 89 #[.agg #[.bool false, .slice A 0 c]] w (ToldR 0 w) := by
  have hb0 : Below w.heap.size w (w.alloc (.cells #[.bool false, .slice A 0 c] 116)) := (Below.refl _ _).alloc (Nat.le_refl _) _
  have hc0 : (w.alloc (.cells #[.bool false, .slice A 0 c] 116)).cell? ⟨w.heap.size, 0, none⟩ = some (.bool false) := by simp [World.cell?_alloc_new]
  have hc1 : (w.alloc (.cells #[.bool false, .slice A 0 c] 116)).cell? ⟨w.heap.size, 1, none⟩ = some (.slice A 0 c) := by simp [World.cell?_alloc_new]
  go_enter Tryz.func89, Tryz.ntmps89
  go_wp2_with (first
    | (go_at_call 139; go_must (refine (digits_any _ (henv.below hb0) _ _ _ _ (ha.below hb0) hL).mono ?_; rintro e w1 ⟨k, rfl, hk, hb1⟩; have hk6 : k ≤ 600 := (by rw [hk.out, Lib.nDigits_small (by omega)]; omega); have hd0 := (hb1.cell (p := ⟨w.heap.size, 0, none⟩) (by simp)).trans hc0; have hd1 := (hb1.cell (p := ⟨w.heap.size, 1, none⟩) (by simp)).trans hc1; have henv2 := ((henv.below hb0).below hb1).below ((Below.refl w1.heap.size w1).alloc (Nat.le_refl _) (.cells #[.pointer none, .slice none 0 0] 169)); have hsz : w.heap.size < w1.heap.size := (by have := hb1.size; simp at this; omega)))
    | (go_at_call 140; go_must (refine (write_i w1.heap.size _ [] 0 1 0 1 rfl rfl _ henv2 (builder_new _ _ _) (by omega) (by omega) (by simp) (by simp)).mono ?_; rintro e w2 ⟨rfl, hB2, hb2⟩; have hd2 := (hb2.cell (p := ⟨w.heap.size, 0, none⟩) hsz).trans ((((Below.refl w1.heap.size w1).alloc (Nat.le_refl _) (.cells #[.pointer none, .slice none 0 0] 169)).cell (p := ⟨w.heap.size, 0, none⟩) hsz).trans hd0); have hd3 := (hb2.cell (p := ⟨w.heap.size, 1, none⟩) hsz).trans ((((Below.refl w1.heap.size w1).alloc (Nat.le_refl _) (.cells #[.pointer none, .slice none 0 0] 169)).cell (p := ⟨w.heap.size, 1, none⟩) hsz).trans hd1))))
  go_loopw [6] (fun iv wr => iv = .int .i64 (-1) ∧ w2 = wr) (fun _ _ => 0)
  case atStart => exact ⟨rfl, rfl⟩
  case round =>
    obtain ⟨rfl, rfl⟩ := hrel
    go_wp2_with (go_at_call 145; go_must (refine (Tryz.Builder_String_any w1.heap.size w1.heap.size _ _ (.inr hB2) (Nat.le_trans (by simp) hb2.size)).mono ?_; rintro e w3 ⟨rfl, hb3⟩))
    go_ret2
    refine ⟨?_, chain hb0 (hb1.trans ((((Below.refl w1.heap.size w1).alloc (Nat.le_refl _) _).trans hb2 |>.trans hb3).mono hb1.size))⟩
    exact told_fin fits_zero pad_zero

theorem itoa_sgn (z : Int) : Lib.itoa z = (if z < 0 then [45] else []) ++ Lib.decDigits z.natAbs := by
  unfold Lib.itoa
  split
  · rfl
  · rw [List.nil_append]
    congr 1
    omega

def ToldS (w1 : World) (l : List UInt8) (wx : World) : Prop := Lib.IsBuilder 169 5 w1.heap.size w1.heap.size (Lib.byteCells l) wx ∧ Below w1.heap.size w1 wx
theorem told_some (w : World) (henv : Env w) {L : Nat} (A : Option Addr) (n c : Nat) (z : Int) (bl : Bool) (hz : bl = decide (z < 0)) (ha : Ms w L A n c z.natAbs) (hL : L ≤ 1000000000000) (h0 : z ≠ 0) (hf : fits z = true) :
    Calls Tryz.prog 89 #[.agg #[.bool bl, .slice A n c]] w (ToldR z w) := by
  have hf2 : Lib.nDigits z.natAbs ≤ 600 := by simpa [fits] using hf
  have HF := Lib.hid hf
  have ha' := ha
  obtain ⟨hl, xs, hx, nx⟩ := ha'
  have hn : 0 < n := by
    refine Nat.pos_of_ne_zero fun e => ?_
    subst e
    have := nx.zero_iff.2 (List.eq_nil_of_length_eq_zero hx.len)
    omega
  have hnL : n ≤ 1000000000000 := by omega
  have hn0 : ((n : Int) == 0) = false := by simp; omega
  have hxl := hx.len
  have HXL : Hid _ := hxl
  clear hf hxl
  have hb0 : Below w.heap.size w (w.alloc (.cells #[.bool bl, .slice A n c] 116)) := (Below.refl _ _).alloc (Nat.le_refl _) _
  have hc0 : (w.alloc (.cells #[.bool bl, .slice A n c] 116)).cell? ⟨w.heap.size, 0, none⟩ = some (.bool bl) := by simp [World.cell?_alloc_new]
  have hc1 : (w.alloc (.cells #[.bool bl, .slice A n c] 116)).cell? ⟨w.heap.size, 1, none⟩ = some (.slice A n c) := by simp [World.cell?_alloc_new]
  obtain ⟨sgn, hsgn⟩ : ∃ sgn : List UInt8, sgn = if z < 0 then [45] else [] := ⟨_, rfl⟩
  have HSG : Hid _ := hsgn
  have hsl : sgn.length ≤ 1 := by rw [hsgn]; split <;> simp
  have HBL : Hid _ := hz
  clear hz hsgn
  go_enter Tryz.func89, Tryz.ntmps89
  go_upto_if 14 with (go_at_call 139; go_must (refine (digits_any _ (henv.below hb0) _ _ _ _ (ha.below hb0) hL).mono ?_; rintro e w1 ⟨k, rfl, hk, hb1⟩; have hk6 : k ≤ 600 := (by rw [hk.out]; exact hf2); have hd0 := (hb1.cell (p := ⟨w.heap.size, 0, none⟩) (by simp)).trans hc0; have hd1 := (hb1.cell (p := ⟨w.heap.size, 1, none⟩) (by simp)).trans hc1; have henv2 := ((henv.below hb0).below hb1).below ((Below.refl w1.heap.size w1).alloc (Nat.le_refl _) (.cells #[.pointer none, .slice none 0 0] 169)); have hsz : w.heap.size < w1.heap.size := (by have := hb1.size; simp at this; omega)))
  go_cut [] (fun wx => ToldS w1 sgn wx)
  case first =>
    by_cases hzn : z < 0
    · have hb : bl = true := by rw [HBL.out]; simp [hzn]
      subst hb
      have HS1 : Hid (sgn = [45]) := by show _ = _; rw [HSG.out, if_pos hzn]
      go_wp2_with (go_at_call 144; go_must (refine (writeByte_any w1.heap.size w1.heap.size _ 45 _ (builder_new _ _ _) (by simp [Lib.byteCells]) (by simp)).mono ?_; rintro e w2 ⟨rfl, hB2, hb2⟩))
      go_meet
      case rel => exact ⟨.inr (by rw [HS1.out]; exact hB2), ((Below.refl _ _).alloc (Nat.le_refl _) _).trans hb2⟩
    · have hb : bl = false := by rw [HBL.out]; simp [hzn]
      subst hb
      have HS1 : Hid (sgn = []) := by show _ = _; rw [HSG.out, if_neg hzn]
      go_wp2
      go_meet
      case rel => exact ⟨by rw [HS1.out]; exact builder_new _ _ _, (Below.refl _ _).alloc (Nat.le_refl _) _⟩
  case rest =>
    obtain ⟨hB, hbc⟩ := hcut
    have he0 := hd0
    have he1 := (hbc.cell (p := ⟨w.heap.size, 1, none⟩) hsz).trans hd1
    have henv1 := (henv.below hb0).below hb1
    have hx1 := (hx.below hb0).below hb1
    have HD1 := Lib.hid hd1
    clear henv2 hd0 hd1 hc0 hc1 he0
    go_wp2
    go_loopw [6, 7] (fun iv wv wx => ∃ (k wd : Nat) (l : List UInt8), k ≤ n ∧ iv = .int .i64 ((k : Int) - 1) ∧ wv = .int .i64 (wd : Int) ∧ Hid (ToldI xs sgn k wd l) ∧ Lib.IsBuilder 169 5 w1.heap.size w1.heap.size (Lib.byteCells l) wx ∧ Below w1.heap.size w1 wx) (fun iv _ _ => (intOf iv + 1).toNat)
    case atStart => exact ⟨n, 1, sgn, Nat.le_refl _, rfl, rfl, .inl ⟨HXL.out.symm, rfl, rfl⟩, hB, hbc⟩
    case round =>
      clear hB hbc he1
      obtain ⟨k, wd, l, hk, rfl, rfl, hT, hB, hbx⟩ := hrel
      have he1 := (hbx.cell (p := ⟨w.heap.size, 1, none⟩) hsz).trans HD1.out
      have hwd := hT.out.wd
      have hll := hT.out.len nx hsl hf2
      by_cases hk0 : 0 < k
      · obtain ⟨i, rfl⟩ : ∃ i, k = i + 1 := ⟨k - 1, by omega⟩
        obtain ⟨b3, o3, x, rfl, hxk, hb3, hc3⟩ := (hx1.below hbx).get (j := i) (by omega)
        have x0 := (nx.dig.get hxk).1
        have x1 := (nx.dig.get hxk).2
        have HX := Lib.hid hxk
        clear hxk
        go_wp2_with (go_at_call 140; go_must (refine (write_i w1.heap.size w1.heap.size l x wd x.toNat wd (by omega) rfl _ (henv1.below hbx) hB (by omega) hwd (by omega) hbx.size).mono ?_; rintro e w2 ⟨rfl, hB2, hb2⟩))
        go_roundw
        case rel => exact ⟨i, 18, _, by omega, rfl, rfl, hT.out.step nx HX.out, .inr hB2, hbx.trans hb2⟩
        case measure => simp [intOf] <;> omega
      · obtain rfl : k = 0 := by omega
        have HL : Hid _ := hT.out.done nx (by rw [HXL.out]; exact hn)
        go_wp2_with (go_at_call 145; go_must (refine (Tryz.Builder_String_any w1.heap.size w1.heap.size l _ hB hbx.size).mono ?_; rintro e w3 ⟨rfl, hb3⟩))
        go_ret2
        exact ⟨told_fin HF.out (by rw [HL.out, itoa_sgn, HSG.out]), chain hb0 (hb1.trans ((hbx.trans hb3).mono hb1.size))⟩

theorem told_any (w : World) (henv : Env w) {L : Nat} (A : Option Addr) (n c : Nat) (z : Int) (bl : Bool) (hz : bl = decide (z < 0)) (ha : Ms w L A n c z.natAbs) (hL : L ≤ 1000000000000) :
    Calls Tryz.prog 89 #[.agg #[.bool bl, .slice A n c]] w (ToldR z w) := by
  by_cases hf : fits z = true
  · by_cases h0 : z = 0
    · subst h0
      subst hz
      have hn : n = 0 := by
        obtain ⟨_, xs, hx, nx⟩ := ha
        have h1 := nx.zero_iff.1 rfl
        have h2 := hx.len
        rw [h1] at h2
        simp at h2
        exact h2.symm
      subst hn
      exact told_zero w henv A c ha hL
    · exact told_some w henv A n c z bl hz ha hL h0 hf
  · exact told_long w henv bl A n c z ha hL (by simpa using hf)

end Go.Proofs.YtkajibniibjblaaGreatDoor
