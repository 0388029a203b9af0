/-
  whole.Read.
-/
import Derived.Test.YtkajibniibjblaaGreatDoorCheck
import Derived.Deep.LoopGhost
import Derived.WalkMore
namespace Go.Proofs.YtkajibniibjblaaGreatDoor
open Go.RowKit

/-- What is left of the text, and the groups read. -/
def ReadI (m : Nat) (r : List UInt8) (xs : List Int) : Prop := digs r = true ∧ (dval 0 r : Int) * 1000000000000000000 ^ xs.length + val xs = m ∧ Dig xs

theorem ReadI.start {u : Nat} : ReadI u (Lib.decDigits u) [] := ⟨digs_decDigits u, by rw [dval_decDigits]; simp [val], Dig.nil⟩
theorem ReadI.done {m : Nat} {xs : List Int} (h : ReadI m [] xs) : val xs = m := by
  have := h.2.1
  have e : dval 0 [] = 0 := rfl
  rw [e] at this
  simpa using this
theorem digs_append {l r : List UInt8} (h : digs (l ++ r) = true) : digs l = true ∧ digs r = true := by simpa only [digs, List.all_append, Bool.and_eq_true] using h
theorem read_ring (p t G V : Int) (e : Int) (h : (p * 1000000000000000000 + t) * G + V = e) : p * (G * 1000000000000000000) + (V + G * t) = e := by grind
theorem ReadI.step {m : Nat} {p t : List UInt8} {xs : List Int} (h : ReadI m (p ++ t) xs) (hl : t.length = 18 ∨ (p = [] ∧ t.length ≤ 18)) : ReadI m p (xs ++ [(dval 0 t : Int)]) ∧ digs t = true ∧ dval 0 t < 1000000000000000000 := by
  obtain ⟨h1, h2, h3⟩ := h
  obtain ⟨d1, d2⟩ := digs_append h1
  have hlt := dval_lt d2
  have hlt18 : dval 0 t < 1000000000000000000 := by
    refine Nat.lt_of_lt_of_le hlt (Nat.le_trans (Nat.pow_le_pow_right (by decide) (show t.length ≤ 18 by omega)) (by decide))
  have hv : dval 0 (p ++ t) = dval 0 p * 1000000000000000000 + dval 0 t := by
    rw [dval_append, dval_acc]
    rcases hl with h | ⟨rfl, _⟩
    · rw [h]
    · show 0 * _ + _ = 0 * _ + _
      rw [Nat.zero_mul, Nat.zero_mul]
  refine ⟨⟨d1, ?_, Dig.append.2 ⟨h3, Dig.cons.2 ⟨by omega, Dig.nil⟩⟩⟩, d2, hlt18⟩
  rw [hv] at h2
  rw [val_append, List.length_append, List.length_singleton, Int.pow_succ]
  have e1 : val [(dval 0 t : Int)] = (dval 0 t : Int) := by simp [val]
  rw [e1]
  refine read_ring _ _ _ _ _ ?_
  rw [← h2]
  simp

theorem ReadI.split {m fr : Nat} {S SP ST : ByteArray} {xs : List Int} (h : ReadI m S.data.toList xs) (hS0 : 0 < S.size) (hfr : fr = S.size - 18) (hSP : S.extract 0 fr = SP) (hST : S.extract fr S.size = ST) :
    ∃ u : Nat, Lib.parseUintB 64 ST.data.toList = .ok u ∧ ReadI m SP.data.toList (xs ++ [(u : Int)]) ∧ ST.size ≤ 9223372036854775806 ∧ SP.size = fr := by
  have hs : S.size = S.data.toList.length := rfl
  have hPl : SP.data.toList = S.data.toList.take fr := by rw [← hSP, Lib.extract_data, List.drop_zero, Nat.sub_zero]
  have hTl : ST.data.toList = S.data.toList.drop fr := by
    rw [← hST, Lib.extract_data]
    refine List.take_of_length_le ?_
    rw [List.length_drop]; omega
  have hSl : S.data.toList = SP.data.toList ++ ST.data.toList := by rw [hPl, hTl, List.take_append_drop]
  have hTn : ST.data.toList.length = S.size - fr := by rw [hTl, List.length_drop]; rfl
  have hPn : SP.size = fr := by
    have : SP.size = SP.data.toList.length := rfl
    rw [this, hPl, List.length_take]
    omega
  rw [hSl] at h
  obtain ⟨hI2, hTd, hTv⟩ := h.step (by
    by_cases h : fr = 0
    · exact .inr ⟨List.eq_nil_of_length_eq_zero (by have : SP.size = SP.data.toList.length := rfl; omega), by omega⟩
    · exact .inl (by omega))
  have hTne : ST.data.toList ≠ [] := List.ne_nil_of_length_pos (by omega)
  have hpu := parseB_digs hTd hTne (by omega)
  have hTs : ST.size ≤ 9223372036854775806 := by
    have : ST.size = ST.data.toList.length := rfl
    omega
  exact ⟨_, hpu, hI2, hTs, hPn⟩

theorem below_or {w w' : World} {e : TypeId} {s : ByteArray} (h : w' = w ∨ w' = Lib.bytesWorld w e s) : Below w.heap.size w w' := by
  rcases h with h | h
  · rw [h]; exact Below.refl _ _
  · rw [h]; exact Lib.bytesWorld_below w e s

theorem made_one (w : World) (u : Nat) : Rd (w.alloc (.cells #[.int .u64 (u : Int)] 143)) .u64 (some ⟨w.heap.size, 0, none⟩) 1 1 [(u : Int)] := (OwnS.made w .u64 143 [(u : Int)] (by simp)).rd

theorem first_head (s : ByteArray) (h : 0 < s.size) : s.data.toList.head? = some (s[0]'h) := by
  rcases s with ⟨⟨l⟩⟩
  cases l with
  | nil => exact absurd h (by decide)
  | cons x l => rfl
theorem first_byte (s : ByteArray) (h : 0 < s.size) {x : UInt8} (hx : s.data.toList.head? = some x) : s[0]'h = x := by
  rw [first_head s h] at hx
  injection hx
theorem itoa_pos (z : Int) : 0 < (Lib.itoa z).length := by
  unfold Lib.itoa
  split
  · simp
  · rw [Lib.decDigits_length]; exact Lib.nDigits_pos _
theorem itoa_ne (z : Int) : (Lib.itoa z).isEmpty = false := by
  have := itoa_pos z
  cases h : Lib.itoa z with
  | nil => rw [h] at this; exact absurd this (by decide)
  | cons _ _ => rfl

set_option maxRecDepth 100000

theorem read_any (w : World) (s : ByteArray) (z : Int) (hf : fits z = true) (hs : s.data.toList = Lib.itoa z) :
    Calls Tryz.prog 132 #[.string s] w (RetN w 40 z) := by
  obtain ⟨T, hT⟩ : ∃ T : ByteArray, (⟨(Lib.trimPrefix s.data.toList [45]).toArray⟩ : ByteArray) = T := ⟨_, rfl⟩
  have HT : Hid ((⟨(Lib.trimPrefix s.data.toList [45]).toArray⟩ : ByteArray) = T) := hT
  have hT2 : T.data.toList = Lib.decDigits z.natAbs := by rw [← hT, hs, trim_itoa]
  have hlen : T.size = Lib.nDigits z.natAbs := by rw [← Lib.decDigits_length, ← hT2]; rfl
  have hn6 : Lib.nDigits z.natAbs ≤ 600 := by simpa [fits] using hf
  have hnp := Lib.nDigits_pos z.natAbs
  have hT0 : 0 < T.size := by omega
  have hT6 : T.size ≤ 600 := by omega
  have HI : Hid (ReadI z.natAbs T.data.toList []) := by rw [hT2]; exact ReadI.start
  have HS : Hid (s.data.toList = Lib.itoa z) := hs
  clear hT hlen hn6 hnp hT2 hf hs
  have hb0 : Below w.heap.size w (w.alloc (.cells #[.bool false, .slice none 0 0] 116)) := (Below.refl _ _).alloc (Nat.le_refl _) _
  have hz0 : (w.alloc (.cells #[.bool false, .slice none 0 0] 116)).heap.size = w.heap.size + 1 := by simp
  have O1 := Lib.hid (heap_last w (.cells #[.bool false, .slice none 0 0] 116))
  go_enter Tryz.func132, Tryz.ntmps132
  go_wp2
  go_step3
  go_wp2_with (go_at_call 165; (refine (Tryz.strings_TrimPrefix _ _ _).mono ?_; rintro e w1 ⟨rfl, rfl⟩; rw [show (#[45] : Array UInt8).toList = [45] from rfl, HT.out]))
  go_step3
  go_wp2
  obtain ⟨w0, hw0⟩ : ∃ w0, w0 = w.alloc (.cells #[.bool false, .slice none 0 0] 116) := ⟨_, rfl⟩
  have ho0 := OwnS.nil w0 .u64 143 w0.heap.size
  have hb0 : Below w.heap.size w w0 := by rw [hw0]; exact hb0
  have O1 : Hid (w0.heap[w.heap.size]? = some (.cells #[.bool false, .slice none 0 0] 116)) := by rw [hw0]; exact O1
  have hz0 : Hid (w0.heap.size = w.heap.size + 1) := by rw [hw0]; exact hz0
  rw [← hw0]
  clear hw0
  go_loopg [3, 4] T.size (fun gk sv mv wr => ∃ (S : ByteArray) (A : Option Addr) (n c : Nat) (xs : List Int), sv = .string S ∧ mv = .slice A n c ∧ S.size = gk ∧ 0 < S.size ∧ OwnS wr .u64 143 w0.heap.size A n c xs ∧ Hid (ReadI z.natAbs S.data.toList xs) ∧ 18 * n + S.size ≤ 600 ∧ Below w0.heap.size w0 wr)
  case atStart => exact ⟨T, none, 0, 0, [], rfl, rfl, rfl, hT0, ho0, HI, by omega, Below.refl _ _⟩
  case round =>
    obtain ⟨S, A, n, c, xs, rfl, rfl, rfl, hS0, hown, HI, hn, hb⟩ := hrel
    obtain ⟨fr, hfr⟩ : ∃ fr : Nat, max ((S.size : Int) - 18) 0 = (fr : Int) := ⟨(max ((S.size : Int) - 18) 0).toNat, by omega⟩
    have hfr0 : fr = S.size - 18 := by omega
    have hfrI : (fr : Int) ≤ (S.size : Int) := by omega
    obtain ⟨SP, hSP⟩ : ∃ SP, S.extract 0 fr = SP := ⟨_, rfl⟩
    obtain ⟨ST, hST⟩ : ∃ ST, S.extract fr S.size = ST := ⟨_, rfl⟩
    obtain ⟨u, hpu, hI2, hTs, hPn⟩ := HI.out.split hS0 hfr0 hSP hST
    have HI2 := Lib.hid hI2
    have HU := Lib.hid hpu
    have HFR := Lib.hid hfr0
    clear hpu hI2 HI hfr0
    have hbW : Below w.heap.size w w0 := hb0
    by_cases hf0 : fr = 0
    · have hem : SP.toList.isEmpty = true := by
        rw [Lib.toList_data, List.eq_nil_of_length_eq_zero (show SP.data.toList.length = 0 by have : SP.size = SP.data.toList.length := rfl; omega)]; rfl
      have HF0 := Lib.hid hf0
      clear hf0
      go_wp2_with (first
        | (go_at_call 169; go_must (refine (Tryz.strconv_ParseUint_10_at64_ok ST hTs u HU.out wr).mono ?_; rintro e w1 ⟨rfl, hw1⟩; have hb1 : Below wr.heap.size wr w1 := below_or hw1; have hown1 := (hown.after hb1).after ((Below.refl w1.heap.size w1).alloc (Nat.le_refl _) (.cells #[.int .u64 (u : Int)] 143)); have hsrc := made_one w1 u; have hsb : w0.heap.size ≤ (w1.alloc (.cells #[.int .u64 (u : Int)] 143)).heap.size := (by have := hb.size; have := hb1.size; simp; omega)))
        | (at_builtin; refine wpList_append rfl (.tmp 21) (.tmp 23) 114 rfl 143 .u64 8 Tryz.underlying114 infoU64 w0.heap.size A n c xs rfl hown1 (some ⟨w1.heap.size, 0, none⟩) 1 1 [(u : Int)] rfl hsrc (by omega) (by omega) hsb ?_; intro A2 c2 w2 hown2 hbel2 _))
      have HDG : Hid (Dig (xs ++ [(u : Int)])) := HI2.out.2.2
      have HVL : Hid (val (xs ++ [(u : Int)]) = z.natAbs) := by
        have hnil : SP.data.toList = [] := List.eq_nil_of_length_eq_zero (show SP.data.toList.length = 0 by have : SP.size = SP.data.toList.length := rfl; have := HF0.out; omega)
        have h := HI2.out
        rw [hnil] at h
        exact h.done
      have hbX0 : Below w0.heap.size w0 w2 := (hb.trans (hb1.mono hb.size)).trans ((((Below.refl w1.heap.size w1).alloc (Nat.le_refl _) _).mono (Nat.le_trans hb.size hb1.size)).trans hbel2)
      have hbX : Below w.heap.size w w2 := chain hbW hbX0
      have z1 := cell_later (j := 0) O1.out hbX0
      have z2 := cell_later (j := 1) O1.out hbX0
      have f1 := frozen_later O1.out hbX0 0
      have f2 := frozen_later O1.out hbX0 1
      simp at z1 z2
      have hR : Rd w2.drew .u64 A2 (n + 1) c2 (xs ++ [(u : Int)]) := hown2.rd.below ((Below.refl _ _).drew)
      have hL40 : n + 1 ≤ 40 := by omega
      have hfresh : Hid (∀ ad, A2 = some ad → w.heap.size ≤ ad.block) := fun ad e => Nat.le_trans hbW.size (hown2.fresh ad e)
      have hoff : Hid (∀ (l3 : Nat) ad, A2 = some ad → 0 < l3 → ad.block ≠ w.heap.size) := fun l3 ad e _ => by have h1 := hown2.fresh ad e; have h2 := hz0.out; omega
      have hsne : s.toList.isEmpty = false := by
        rw [Lib.toList_data, HS.out]; exact itoa_ne z
      have hs0 : 0 < s.size := by
        have h1 : s.size = s.data.toList.length := rfl
        rw [h1, HS.out]; exact itoa_pos z
      have hs0I : 0 < (s.size : Int) := by omega
      have hbs : w.heap.size ≤ w2.heap.size := hbX.size
      clear hown hown1 hown2 hsrc hsb hbel2 hb hb1 hw1 hbX0 hn hfr hfrI hem HI2 HU HFR HF0 hSP hST hPn hTs
      by_cases hz : z < 0
      · have HBL : Hid (true = decide (z < 0)) := by show _ = _; simp [hz]
        have h45 : ((s[0]'hs0).toNat : Int) = 45 := by
          rw [first_byte s hs0 (x := 45) (by rw [HS.out, Lib.itoa, if_pos hz]; rfl)]; rfl
        clear hz
        go_region_law (go_simp; go_at_call 170; refine (trim_ms _ _ _ _ _ hR HDG.out HVL.out).mono ?_; rintro e w3 ⟨l3, rfl, hms, rfl⟩; have hms2 := hms.mono hL40; clear hms)
        all_goals
          go_wp2_with fail
          try rw [Exit.noGoto_ret]
          refine bodyPost_ret (v := .agg #[.bool true, .slice A2 l3 c2]) (by simp [results, Tryz.results132, go_sem, z1, z2] <;> exact h45) rfl ⟨_, _, _, _, rfl, HBL, (hms2.setCell (hoff.out l3)).setCell (hoff.out l3), (hbX.drew.setCell (by simp <;> omega) _).setCell (by simp <;> omega) _, hfresh⟩
      · have HBL : Hid (false = decide (z < 0)) := by show _ = _; simp [hz]
        have h45 : ¬ ((s[0]'hs0).toNat : Int) = 45 := fun e => by
          refine decDigits_head_minus z.toNat ?_
          have h1 : s.data.toList = Lib.decDigits z.toNat := by rw [HS.out, Lib.itoa, if_neg hz]
          rw [← h1, first_head s hs0]
          congr 1
          exact UInt8.toNat_inj.1 (by have : (45 : UInt8).toNat = 45 := rfl; omega)
        clear hz
        go_region_law (go_simp; go_at_call 170; refine (trim_ms _ _ _ _ _ hR HDG.out HVL.out).mono ?_; rintro e w3 ⟨l3, rfl, hms, rfl⟩; have hms2 := hms.mono hL40; clear hms)
        all_goals
          go_wp2_with fail
          try rw [Exit.noGoto_ret]
          refine bodyPost_ret (v := .agg #[.bool false, .slice A2 l3 c2]) (by simp [results, Tryz.results132, go_sem, z1, z2] <;> exact h45) rfl ⟨_, _, _, _, rfl, HBL, (hms2.setCell (hoff.out l3)).setCell (hoff.out l3), (hbX.drew.setCell (by simp <;> omega) _).setCell (by simp <;> omega) _, hfresh⟩
    · have hem : SP.toList.isEmpty = false := by
        rw [Lib.toList_data]
        cases hx : SP.data.toList with
        | nil => exact absurd (show SP.size = 0 from by show SP.data.toList.length = 0; rw [hx]; rfl) (by omega)
        | cons _ _ => rfl
      have HF0 := Lib.hid hf0
      clear hf0
      go_wp2_with (first
        | (go_at_call 169; go_must (refine (Tryz.strconv_ParseUint_10_at64_ok ST hTs u HU.out wr).mono ?_; rintro e w1 ⟨rfl, hw1⟩; have hb1 : Below wr.heap.size wr w1 := below_or hw1; have hown1 := (hown.after hb1).after ((Below.refl w1.heap.size w1).alloc (Nat.le_refl _) (.cells #[.int .u64 (u : Int)] 143)); have hsrc := made_one w1 u; have hsb : w0.heap.size ≤ (w1.alloc (.cells #[.int .u64 (u : Int)] 143)).heap.size := (by have := hb.size; have := hb1.size; simp; omega)))
        | (at_builtin; refine wpList_append rfl (.tmp 21) (.tmp 23) 114 rfl 143 .u64 8 Tryz.underlying114 infoU64 w0.heap.size A n c xs rfl hown1 (some ⟨w1.heap.size, 0, none⟩) 1 1 [(u : Int)] rfl hsrc (by omega) (by omega) hsb ?_; intro A2 c2 w2 hown2 hbel2 _))
      go_roundg SP.size
      case measure => have := HF0.out; have := HFR.out; omega
      case rel => exact ⟨SP, A2, n + 1, c2, _, rfl, rfl, rfl, by have := HF0.out; omega, hown2, HI2, by have := HF0.out; have := HFR.out; omega, (hb.trans (hb1.mono hb.size)).trans ((((Below.refl w1.heap.size w1).alloc (Nat.le_refl _) _).mono (Nat.le_trans hb.size hb1.size)).trans hbel2)⟩

end Go.Proofs.YtkajibniibjblaaGreatDoor
