/-
  The reference's numbers: Divisor.
  The reference's numbers: Integer, four, Text, Out.
  The reference's numbers: Out, Integer.
  The reference's numbers: Parts, where the remainder is not negative.
  The reference's fractions: Lowest, Quick (denominators above 0), Out.
  The reference's fractions: Quick (denominator above 0), Out.
-/
import Derived.Test.YtkajibniibjblaaGreatDoorRef2
import Derived.Test.YtkajibniibjblaaGreatDoorWtext
import Derived.Laws.BytesString
import Derived.Test.YtkajibniibjblaaGreatDoorFracA
import Derived.Test.YtkajibniibjblaaGreatDoorFracs
namespace Go.Proofs.YtkajibniibjblaaGreatDoor.P4
open Go.RowKit
set_option maxRecDepth 100000

set_option maxHeartbeats 1000000 in
theorem divisor_any (w : World) {L : Nat} (bl : Bool) (A : Option Addr) (n c : Nat) (a : Nat) (ha : Ms w L A n c a) (bm : Bool) (B : Option Addr) (m d : Nat) (b : Nat) (hb : Ms w L B m d b) (hL : L ≤ 100000000) :
    Calls Tryz.prog 128 #[.agg #[.bool bl, .slice A n c], .agg #[.bool bm, .slice B m d]] w (RetP w L (Nat.gcd a b : Nat)) := by
  have hW : Below w.heap.size w (((w.alloc (.cells #[.bool bl, .slice A n c] 102)).alloc (.cells #[.bool bm, .slice B m d] 102)).alloc (.cells #[.bool false, .slice none 0 0] 102)) := ((((Below.refl w.heap.size w).alloc (Nat.le_refl _) _).alloc (by simp <;> omega) _).alloc (by simp <;> omega) _)
  have o1 := heap_more (heap_more (heap_last w (.cells #[.bool bl, .slice A n c] 102)) (.cells #[.bool bm, .slice B m d] 102)) (.cells #[.bool false, .slice none 0 0] 102)
  have O1 := Lib.hid o1
  clear o1
  have o2 := heap_more (heap_last (w.alloc (.cells #[.bool bl, .slice A n c] 102)) (.cells #[.bool bm, .slice B m d] 102)) (.cells #[.bool false, .slice none 0 0] 102)
  rw [show (w.alloc (.cells #[.bool bl, .slice A n c] 102)).heap.size = w.heap.size + 1 by simp] at o2
  have O2 := Lib.hid o2
  clear o2
  have o3 := heap_last ((w.alloc (.cells #[.bool bl, .slice A n c] 102)).alloc (.cells #[.bool bm, .slice B m d] 102)) (.cells #[.bool false, .slice none 0 0] 102)
  rw [show ((w.alloc (.cells #[.bool bl, .slice A n c] 102)).alloc (.cells #[.bool bm, .slice B m d] 102)).heap.size = w.heap.size + 1 + 1 by simp] at o3
  have O3 := Lib.hid o3
  clear o3
  have hsz : (((w.alloc (.cells #[.bool bl, .slice A n c] 102)).alloc (.cells #[.bool bm, .slice B m d] 102)).alloc (.cells #[.bool false, .slice none 0 0] 102)).heap.size = w.heap.size + 1 + 1 + 1 := by simp
  have HSZ := Lib.hid hsz
  clear hsz
  have ha1 := ha.below hW
  have hb1 := hb.below hW
  obtain ⟨wB, hwB⟩ : ∃ wB, (((w.alloc (.cells #[.bool bl, .slice A n c] 102)).alloc (.cells #[.bool bm, .slice B m d] 102)).alloc (.cells #[.bool false, .slice none 0 0] 102)) = wB := ⟨_, rfl⟩
  rw [hwB] at ha1 hb1 O1 O2 O3 hW HSZ
  have x1 := cell_later (j := 1) O1.out (Below.refl _ _)
  have x2 := cell_later (j := 1) O2.out (Below.refl _ _)
  simp at x1 x2
  clear O1 O2
  go_enter Tryz.func128, Tryz.ntmps128
  go_wp2_with (go_quiet (fail))
  clear x1 x2
  go_loopg [5, 6] b (fun y av bv wr => ∃ (A1 : Option Addr) (n1 c1 : Nat) (A2 : Option Addr) (n2 c2 x : Nat), av = .slice A1 n1 c1 ∧ bv = .slice A2 n2 c2 ∧ Ms wr L A1 n1 c1 x ∧ Ms wr L A2 n2 c2 y ∧ Hid (Nat.gcd x y = Nat.gcd a b) ∧ Below wB.heap.size wB wr)
  case atStart => exact ⟨A, n, c, B, m, d, a, rfl, rfl, ha1.below (below_drewN (Below.refl _ _) _), hb1.below (below_drewN (Below.refl _ _) _), rfl, below_drewN (Below.refl _ _) _⟩
  case round =>
    obtain ⟨y, rfl⟩ : ∃ y : Nat, y = gk := ⟨_, rfl⟩
    obtain ⟨A1, n1, c1, A2, n2, c2, x, rfl, rfl, hx, hy, hg, hbw⟩ := hrel
    have hl1 := hx.1
    have hl2 := hy.1
    by_cases h0 : 0 < n2
    · have hy0 : 0 < y := Nat.pos_of_ne_zero fun e => by have := hy.len_zero.2 e; omega
      go_wp2_with (go_at_call 163; go_must (refine (parts_any _ _ _ _ _ _ _ _ _ hx hy hy0 hL).mono ?_; rintro e w2 ⟨A3, n3, c3, A4, n4, c4, rfl, hq, hr, hb2⟩))
      go_roundg (x % y)
      case measure => exact Nat.mod_lt _ hy0
      case rel => exact ⟨_, _, _, _, _, _, y, rfl, rfl, hy.below hb2, hr, by show _ = _; rw [← hg.out, Nat.gcd_comm x y, Nat.gcd_rec y x, Nat.gcd_comm], chain hbw hb2⟩
    · obtain rfl : n2 = 0 := by omega
      have hy0 := hy.len_zero.1 rfl
      have e := hg.out
      rw [hy0, Nat.gcd_zero_right] at e
      have HX := Lib.hid hx
      have HE := Lib.hid e
      have hbs := hbw.size
      have hsz := HSZ.out
      have hW1 := chain hW hbw
      have hs := hW1.size
      have y1 := cell_later (j := 0) O3.out hbw
      have y2 := cell_later (j := 1) O3.out hbw
      have g1 := frozen_later O3.out hbw 0
      have g2 := frozen_later O3.out hbw 1
      simp at y1 y2
      have HF := Lib.hid (hx.off (g := w.heap.size + 1 + 1) (blk_later O3.out hbw) (by simp) (by simp))
      clear hx hy hg e hy0
      go_wp2
      refine bodyPost_ret (v := .agg #[.bool false, .slice A1 n1 c1]) (by simp [results, Tryz.results128, go_sem, y1, y2]) rfl ⟨_, _, _, _, rfl, (by show false = _; simp), ?_, (hW1.setCell (by simp <;> omega) _).setCell (by simp <;> omega) _⟩
      rw [← HE.out]
      exact (HX.out.setCell HF.out).setCell HF.out
end Go.Proofs.YtkajibniibjblaaGreatDoor.P4

namespace Go.Proofs.YtkajibniibjblaaGreatDoor.P4
open Go.RowKit
set_option maxRecDepth 100000

theorem four_eq (n : Nat) (hn : n < 10000) : padn 4 n = [UInt8.ofNat (48 + n / 1000), UInt8.ofNat (48 + n / 100 % 10), UInt8.ofNat (48 + n / 10 % 10), UInt8.ofNat (48 + n % 10)] := by
  simp only [padn, List.nil_append, List.cons_append]
  have e1 : n / 10 / 10 % 10 = n / 100 % 10 := by omega
  have e2 : n / 10 / 10 / 10 % 10 = n / 1000 := by omega
  rw [e1, e2]
theorem conv_four (W : World) (a : Addr) (x0 x1 x2 x3 : Int) (h0 : W.cell? (a.add 0) = some (.int .u8 x0)) (h1 : W.cell? (a.add 1) = some (.int .u8 x1)) (h2 : W.cell? (a.add 2) = some (.int .u8 x2)) (h3 : W.cell? (a.add 3) = some (.int .u8 x3)) :
    Sem.run Tryz.prog (convert 167 9 (.slice (some a) 4 4)) W = .ok (.string ⟨#[UInt8.ofNat x0.toNat, UInt8.ofNat x1.toNat, UInt8.ofNat x2.toNat, UInt8.ofNat x3.toNat]⟩) W := by
  rw [run_convert_bytes_string W _ _ 5 (some a) 4 4 Tryz.underlying167 Tryz.underlying5 Tryz.underlying9]
  rw [run_bytesToString W a 4 4 [x0, x1, x2, x3] (run_loadCells_list W a ([x0, x1, x2, x3].map (Value.int .u8)) (fun j v hj => by
    rcases j with _ | _ | _ | _ | j <;> simp at hj
    · subst hj; exact h0
    · subst hj; exact h1
    · subst hj; exact h2
    · subst hj; exact h3))]
  rfl
theorem four_any (w : World) (n : Nat) (hn : n < 10000) :
    Calls Tryz.prog 184 #[.int .i64 (n : Int)] w (RetS w (padn 4 n)) := by
  rw [four_eq n hn]
  have hb : ∀ o, Below w.heap.size w (w.alloc o) := fun o => (Below.refl _ _).alloc (Nat.le_refl _) _
  have hcv := fun W => conv_four W ⟨w.heap.size, 0, none⟩ (48 + (n : Int) / 1000) (48 + (n : Int) / 100 % 10) (48 + (n : Int) / 10 % 10) (48 + (n : Int) % 10)
  have e0 : Hid ((48 + (n : Int) / 1000).toNat = 48 + n / 1000) := by show _ = _; omega
  have e1 : Hid ((48 + (n : Int) / 100 % 10).toNat = 48 + n / 100 % 10) := by show _ = _; omega
  have e2 : Hid ((48 + (n : Int) / 10 % 10).toNat = 48 + n / 10 % 10) := by show _ = _; omega
  have e3 : Hid ((48 + (n : Int) % 10).toNat = 48 + n % 10) := by show _ = _; omega
  obtain ⟨cs, hcs⟩ : ∃ cs : Array Value, cs = #[.int .u8 (48 + (n : Int) / 1000), .int .u8 (48 + (n : Int) / 100 % 10), .int .u8 (48 + (n : Int) / 10 % 10), .int .u8 (48 + (n : Int) % 10)] := ⟨_, rfl⟩
  have hcl : ∀ j, (w.alloc (.cells cs 5)).cell? ⟨w.heap.size, j, none⟩ = cs[j]? := fun j => cell_later (heap_last w _) (Below.refl _ _)
  have hcv' := hcv (w.alloc (.cells cs 5)) ((hcl 0).trans (by rw [hcs]; rfl)) ((hcl 1).trans (by rw [hcs]; rfl)) ((hcl 2).trans (by rw [hcs]; rfl)) ((hcl 3).trans (by rw [hcs]; rfl))
  rw [e0.out, e1.out, e2.out, e3.out, hcs] at hcv'
  obtain ⟨S, hS⟩ : ∃ S : ByteArray, (⟨#[UInt8.ofNat (48 + n / 1000), UInt8.ofNat (48 + n / 100 % 10), UInt8.ofNat (48 + n / 10 % 10), UInt8.ofNat (48 + n % 10)]⟩ : ByteArray) = S := ⟨_, rfl⟩
  rw [hS] at hcv'
  have HS := Lib.hid hS
  clear hcl hcs hS
  clear hcv
  go_enter Tryz.func184, Tryz.ntmps184
  go_wp2
  go_ret
  exact ⟨(congrArg (fun s => Ending.returned (.string s)) HS.out).symm, hb _⟩

/-- The digits' texts, the highest first. -/
def pads : List Int → List UInt8
  | [] => []
  | x :: xs => pads xs ++ padn 4 x.toNat
theorem padn_length (w r : Nat) : (padn w r).length = w := by
  induction w generalizing r with
  | zero => rfl
  | succ w ih => simp [padn, ih]
theorem pads_length (xs : List Int) : (pads xs).length = 4 * xs.length := by
  induction xs with
  | nil => rfl
  | cons x xs ih => simp [pads, ih, padn_length]; omega
theorem pads_drop {xs : List Int} {i : Nat} {x : Int} (h : xs[i]? = some x) : pads (xs.drop i) = pads (xs.drop (i + 1)) ++ padn 4 x.toNat := by
  have hl := (List.getElem?_eq_some_iff.1 h).1
  rw [List.drop_eq_getElem_cons hl, (List.getElem?_eq_some_iff.1 h).2]
  rfl
theorem pads_text {xs : List Int} (hd : Dig xs) : ∀ n : Nat, val xs = n → ∃ z, pads xs = List.replicate z 48 ++ (if n = 0 then [] else Lib.decDigits n) := by
  induction xs with
  | nil => intro n hn; have : n = 0 := by simp [val] at hn; omega
           subst this; exact ⟨0, rfl⟩
  | cons x ys ih =>
    intro n hn
    obtain ⟨hx, hy⟩ := Dig.cons.1 hd
    obtain ⟨v, hv⟩ := Int.eq_ofNat_of_zero_le (val_nonneg hy)
    obtain ⟨u, rfl⟩ := Int.eq_ofNat_of_zero_le hx.1
    obtain ⟨z, hz⟩ := ih hy v hv
    have e : n = v * 10 ^ 4 + u := by rw [val, hv] at hn; omega
    rw [pads, hz, Int.toNat_natCast]
    by_cases h0 : v = 0
    · subst h0
      have e : n = u := by omega
      subst e
      rw [if_pos rfl, List.append_nil]
      by_cases hu : n = 0
      · subst hu
        exact ⟨z + 4, by rw [padn_zero, if_pos rfl, List.append_nil, List.replicate_append_replicate]⟩
      · refine ⟨z + (4 - Lib.nDigits n), ?_⟩
        rw [if_neg hu, padn_eq 4 n (by decide) (by omega), ← List.append_assoc, List.replicate_append_replicate]
    · have hn0 : n ≠ 0 := by omega
      refine ⟨z, ?_⟩
      rw [if_neg h0, if_neg hn0, e, decDigits_split (by omega) 4 u (by omega), List.append_assoc]
theorem strip_text {l D : List UInt8} {z k : Nat} (hl : l = List.replicate z 48 ++ D) (hD : D.head? ≠ some 48) (hk : ∀ j, j < k → l[j]? = some 48) (hend : l[k]? ≠ some 48) : l.drop k = D := by
  have h1 : z ≤ k := by
    rcases Nat.lt_or_ge k z with h | h
    · exfalso; apply hend
      rw [hl, List.getElem?_append_left (by simpa using h), List.getElem?_replicate, if_pos h]
    · exact h
  have h2 : k ≤ z := by
    rcases Nat.lt_or_ge z k with h | h
    · exfalso
      have := hk z h
      rw [hl, List.getElem?_append_right (by simp)] at this
      simp at this
      apply hD
      rw [List.head?_eq_getElem?]; exact this
    · exact h
  obtain rfl : k = z := by omega
  rw [hl, List.drop_left' (by simp)]

theorem ext_text (S : ByteArray) (k : Nat) {SD : ByteArray} (h : S.extract k S.size = SD) {D : List UInt8} (hD : S.data.toList.drop k = D) : SD.data.toList = D := by
  rw [← h, ← hD]
  rcases S with ⟨⟨l⟩⟩
  simp [ByteArray.extract, ByteArray.copySlice, ByteArray.size]
  exact List.take_of_length_le (by simp)
theorem decDigits_ne' (u : Nat) : Lib.decDigits u ≠ [] := fun e => by
  have h := Lib.decDigits_length u
  have := Lib.nDigits_pos u
  rw [e] at h; simp at h; omega
theorem text_any (w : World) {L : Nat} (bl : Bool) (A : Option Addr) (n c : Nat) (z : Int) (hbl : Hid (bl = decide (z < 0))) (ha : Ms w L A n c z.natAbs) (hL : L ≤ 100000000) :
    Calls Tryz.prog 149 #[.agg #[.bool bl, .slice A n c]] w (RetS w (Lib.itoa z)) := by
  obtain ⟨hla, xs, hx, nx⟩ := ha
  have hW : Below w.heap.size w (w.alloc (.cells #[.bool bl, .slice A n c] 102)) := ((Below.refl w.heap.size w).alloc (Nat.le_refl _) _)
  have o1 := heap_last w (.cells #[.bool bl, .slice A n c] 102)
  have O1 := Lib.hid o1
  clear o1
  have hsz : (w.alloc (.cells #[.bool bl, .slice A n c] 102)).heap.size = w.heap.size + 1 := by simp
  have HSZ := Lib.hid hsz
  clear hsz
  have hx1 := hx.below hW
  go_enter Tryz.func149, Tryz.ntmps149
  go_wp2
  go_loopw [3, 4] (fun sv t wr => ∃ (j : Nat) (S : ByteArray), j ≤ n ∧ t = .int .i64 ((j : Int) - 1) ∧ sv = .string S ∧ Hid (S.data.toList = pads (xs.drop j)) ∧ Below (w.alloc (.cells #[.bool bl, .slice A n c] 102)).heap.size (w.alloc (.cells #[.bool bl, .slice A n c] 102)) wr) (fun _ t _ => (intOf t + 1).toNat)
  case atStart => exact ⟨n, ⟨#[]⟩, Nat.le_refl _, rfl, rfl, by show _ = _; rw [List.drop_of_length_le (by rw [hx.len]; omega)]; rfl, Below.refl _ _⟩
  case round =>
    obtain ⟨j, S, hj, rfl, rfl, hS, hbw⟩ := hrel
    have c0 := cell_later (j := 0) O1.out hbw
    have c1 := cell_later (j := 1) O1.out hbw
    simp at c0 c1
    have hsz : S.size = 4 * (n - j) := by
      have h1 : S.size = S.data.toList.length := rfl
      rw [h1, hS.out, pads_length, List.length_drop, hx.len]
    by_cases h0 : 0 < j
    · obtain ⟨i, rfl⟩ : ∃ i, j = i + 1 := ⟨j - 1, by omega⟩
      obtain ⟨b1, o1, x, rfl, hxk, hb1, hc1⟩ := (hx1.below hbw).get (j := i) (by omega)
      obtain ⟨u, rfl⟩ := Int.eq_ofNat_of_zero_le (nx.dig.get hxk).1
      have hu : u < 10000 := by have := (nx.dig.get hxk).2; omega
      have HPD := Lib.hid (pads_drop hxk)
      clear hxk
      go_wp2_with fail
      refine (four_any _ u hu).mono ?_
      rintro e w2 ⟨rfl, hb2⟩
      obtain ⟨F, hF⟩ : ∃ F : ByteArray, (⟨(padn 4 u).toArray⟩ : ByteArray) = F := ⟨_, rfl⟩
      have hFs : F.size = 4 := by rw [← hF]; show (padn 4 u).toArray.size = 4; rw [List.size_toArray, padn_length]
      have HF := Lib.hid hF
      rw [hF]
      clear hF
      go_wp2
      go_roundw
      case rel => exact ⟨i, S ++ F, by omega, by go_num, rfl, by show _ = _; rw [ByteArray.data_append, Array.toList_append, hS.out, HPD.out, ← HF.out]; rfl, chain hbw hb2⟩
      case measure => simp [intOf] <;> omega
    · obtain rfl : j = 0 := by omega
      have hS0 : Hid (S.data.toList = pads xs) := by show _ = _; rw [hS.out]; rfl
      obtain ⟨zz, hzz⟩ := pads_text nx.dig _ nx.val_
      have HZ := Lib.hid hzz
      have HD : Hid ((if z.natAbs = 0 then [] else Lib.decDigits z.natAbs).head? ≠ some 48) := by
        show _ ≠ _
        split
        · simp
        · rename_i h; exact decDigits_head (by omega)
      have hsz2 : S.size ≤ 400000000 := by omega
      clear hzz hS hsz
      obtain ⟨wo, rfl⟩ : ∃ wo : World, wo = wr := ⟨_, rfl⟩
      go_wp2
      go_loopw [5] (fun t wr => ∃ k : Nat, k ≤ S.size ∧ t = .int .i64 (k : Int) ∧ (∀ q, q < k → S.data.toList[q]? = some 48) ∧ Below wo.heap.size wo wr) (fun t _ => S.size - (intOf t).toNat)
      case atStart => exact ⟨0, Nat.zero_le _, rfl, fun q h => absurd h (by omega), Below.refl _ _⟩
      case round =>
        obtain ⟨k, hk, rfl, hq, hbk⟩ := hrel
        have HQ := Lib.hid hq
        clear hq
        by_cases hks : k < S.size
        · by_cases h48 : (S[k]'hks).toNat = 48
          · have HQ2 : Hid (∀ q, q < k + 1 → S.data.toList[q]? = some 48) := by
              intro q hq
              by_cases e : q = k
              · subst e
                have : S.data.toList[q]? = some (S[q]'hks) := by
                  rw [List.getElem?_eq_getElem (by exact hks)]; rfl
                rw [this]; congr 1
                exact UInt8.toNat_inj.1 (by rw [h48]; rfl)
              · exact HQ.out q (by omega)
            go_wp2
            go_roundw
            case rel => exact ⟨k + 1, by omega, by go_num, HQ2.out, hbk⟩
            case measure => simp [intOf] <;> omega
          · skip
            have hend : S.data.toList[k]? ≠ some 48 := by
              rw [List.getElem?_eq_getElem (by exact hks)]; intro e; injection e with e; exact h48 (by show (S.data.toList[k]).toNat = 48; rw [e]; rfl)
            obtain ⟨SD, hSD⟩ : ∃ SD, S.extract k S.size = SD := ⟨_, rfl⟩
            have hsd : SD.size ≤ S.size := by rw [← hSD, ByteArray.size_extract]; omega
            have HT := Lib.hid (ext_text S k hSD (strip_text (hS0.out.trans HZ.out) HD.out (fun j hj => HQ.out j hj) hend))
            have hcx := chain hbw hbk
            clear hend HQ
            by_cases hz0 : z.natAbs = 0
            · have hem : SD.toList.isEmpty = true := by rw [Lib.toList_data, HT.out, if_pos hz0]; rfl
              have HI : Hid ((⟨(Lib.itoa z).toArray⟩ : ByteArray) = ⟨#[48]⟩) := by
                show _ = _
                rw [show z = 0 by omega, Lib.itoa, if_neg (by decide), show (0 : Int).toNat = 0 from rfl, decDigits_one (by decide)]
                rfl
              clear hz0
              go_wp2
              go_ret
              exact ⟨by rw [HI.out]; rfl, chain hW hcx⟩
            · have hne : SD.data.toList = Lib.decDigits z.natAbs := by rw [HT.out, if_neg hz0]
              have hem : SD.toList.isEmpty = false := by
                rw [Lib.toList_data, hne]
                cases h : Lib.decDigits z.natAbs with
                | nil => exact absurd h (decDigits_ne' _)
                | cons _ _ => rfl
              have HN := Lib.hid hne
              clear hne hz0
              have c0' := cell_later (j := 0) O1.out hcx
              simp at c0'
              by_cases hz : z < 0
              · obtain rfl : bl = true := by rw [hbl.out]; simp [hz]
                have HI : Hid ((⟨(Lib.itoa z).toArray⟩ : ByteArray) = ⟨#[45]⟩ ++ SD) := by
                  show _ = _
                  rw [itoa_sgn, if_pos hz, ← HN.out]
                  rcases SD with ⟨⟨l⟩⟩
                  rfl
                clear hz
                go_wp2
                go_ret
                exact ⟨by rw [HI.out]; rfl, chain hW hcx⟩
              · obtain rfl : bl = false := by rw [hbl.out]; simp; omega
                have HI : Hid ((⟨(Lib.itoa z).toArray⟩ : ByteArray) = SD) := by
                  show _ = _
                  rw [itoa_sgn, if_neg hz, ← HN.out]
                  rcases SD with ⟨⟨l⟩⟩
                  rfl
                clear hz
                go_wp2
                go_ret
                exact ⟨by rw [HI.out]; rfl, chain hW hcx⟩
        · skip
          have hend : S.data.toList[k]? ≠ some 48 := by
            rw [List.getElem?_eq_none (by show S.data.toList.length ≤ k; have : S.size = S.data.toList.length := rfl; omega)]; simp
          obtain ⟨SD, hSD⟩ : ∃ SD, S.extract k S.size = SD := ⟨_, rfl⟩
          have hsd : SD.size ≤ S.size := by rw [← hSD, ByteArray.size_extract]; omega
          have HT := Lib.hid (ext_text S k hSD (strip_text (hS0.out.trans HZ.out) HD.out (fun j hj => HQ.out j hj) hend))
          have hcx := chain hbw hbk
          clear hend HQ
          by_cases hz0 : z.natAbs = 0
          · have hem : SD.toList.isEmpty = true := by rw [Lib.toList_data, HT.out, if_pos hz0]; rfl
            have HI : Hid ((⟨(Lib.itoa z).toArray⟩ : ByteArray) = ⟨#[48]⟩) := by
              show _ = _
              rw [show z = 0 by omega, Lib.itoa, if_neg (by decide), show (0 : Int).toNat = 0 from rfl, decDigits_one (by decide)]
              rfl
            clear hz0
            go_wp2
            go_ret
            exact ⟨by rw [HI.out]; rfl, chain hW hcx⟩
          · have hne : SD.data.toList = Lib.decDigits z.natAbs := by rw [HT.out, if_neg hz0]
            have hem : SD.toList.isEmpty = false := by
              rw [Lib.toList_data, hne]
              cases h : Lib.decDigits z.natAbs with
              | nil => exact absurd h (decDigits_ne' _)
              | cons _ _ => rfl
            have HN := Lib.hid hne
            clear hne hz0
            have c0' := cell_later (j := 0) O1.out hcx
            simp at c0'
            by_cases hz : z < 0
            · obtain rfl : bl = true := by rw [hbl.out]; simp [hz]
              have HI : Hid ((⟨(Lib.itoa z).toArray⟩ : ByteArray) = ⟨#[45]⟩ ++ SD) := by
                show _ = _
                rw [itoa_sgn, if_pos hz, ← HN.out]
                rcases SD with ⟨⟨l⟩⟩
                rfl
              clear hz
              go_wp2
              go_ret
              exact ⟨by rw [HI.out]; rfl, chain hW hcx⟩
            · obtain rfl : bl = false := by rw [hbl.out]; simp; omega
              have HI : Hid ((⟨(Lib.itoa z).toArray⟩ : ByteArray) = SD) := by
                show _ = _
                rw [itoa_sgn, if_neg hz, ← HN.out]
                rcases SD with ⟨⟨l⟩⟩
                rfl
              clear hz
              go_wp2
              go_ret
              exact ⟨by rw [HI.out]; rfl, chain hW hcx⟩
end Go.Proofs.YtkajibniibjblaaGreatDoor.P4

namespace Go.Proofs.YtkajibniibjblaaGreatDoor.P4
open Go.RowKit
set_option maxRecDepth 100000

theorem itoa_len (z : Int) : (Lib.itoa z).length = Lib.nDigits z.natAbs + (if z < 0 then 1 else 0) := by
  rw [itoa_sgn]
  split
  · simp [Lib.decDigits_length]
  · simp [Lib.decDigits_length]
theorem out_any (w : World) {L : Nat} (bl : Bool) (A : Option Addr) (n c : Nat) (z : Int) (hbl : Hid (bl = decide (z < 0))) (ha : Ms w L A n c z.natAbs) (hL : L ≤ 100000000) :
    Calls Tryz.prog 126 #[.agg #[.bool bl, .slice A n c]] w (ToldR z w) := by
  have hW : Below w.heap.size w (w.alloc (.cells #[.bool bl, .slice A n c] 102)) := ((Below.refl w.heap.size w).alloc (Nat.le_refl _) _)
  have o1 := heap_last w (.cells #[.bool bl, .slice A n c] 102)
  have O1 := Lib.hid o1
  clear o1
  have hsz : (w.alloc (.cells #[.bool bl, .slice A n c] 102)).heap.size = w.heap.size + 1 := by simp
  have HSZ := Lib.hid hsz
  clear hsz
  have ha1 := ha.below hW
  obtain ⟨S, hS⟩ : ∃ S : ByteArray, (⟨(Lib.itoa z).toArray⟩ : ByteArray) = S := ⟨_, rfl⟩
  obtain ⟨k, hk⟩ : ∃ k, Lib.nDigits z.natAbs = k := ⟨_, rfl⟩
  have hkp : 0 < k := by rw [← hk]; exact Lib.nDigits_pos _
  have hsz : S.size = k + (if z < 0 then 1 else 0) := by
    rw [← hS, ← hk, ← itoa_len]; rfl
  have HS := Lib.hid hS
  have HK := Lib.hid hk
  have hkm : k ≤ 9223372036854775800 := by
    obtain ⟨hal, xs, hx, nx⟩ := ha
    have hlt := val_lt nx.dig
    rw [nx.val_] at hlt
    have h2 : z.natAbs < 10 ^ (4 * xs.length + 1) := by
      have e : ((10000 : Int) ^ xs.length) = ((10 ^ (4 * xs.length) : Nat) : Int) := by
        rw [Nat.pow_mul]; simp
      rw [e] at hlt
      have : 10 ^ (4 * xs.length) ≤ 10 ^ (4 * xs.length + 1) := Nat.pow_le_pow_right (by decide) (by omega)
      omega
    have := nDigits_lt h2 (by omega)
    have := hx.len
    omega
  clear hS hk
  by_cases hz : z < 0
  · obtain rfl : bl = true := by rw [hbl.out]; simp [hz]
    rw [if_pos hz] at hsz
    by_cases hf : k ≤ 600
    · have HT : Hid (Value.tuple #[.string (toldS z), .int .i64 (toldE z)] = .tuple #[.string S, .int .i64 0]) := by
        have e : fits z = true := by rw [fits, decide_eq_true_iff, HK.out]; exact hf
        show _ = _; rw [toldS, toldE, if_pos e, if_pos e, HS.out]
      clear hz
      go_enter Tryz.func126, Tryz.ntmps126
      go_wp2_with fail
      refine (text_any _ _ _ _ _ z hbl ha1 hL).mono ?_
      rintro e w1 ⟨rfl, hb1⟩
      rw [HS.out]
      have x0 := cell_later (j := 0) O1.out hb1
      simp at x0
      go_wp2
      go_ret2
      exact ⟨by rw [HT.out]; rfl, chain hW hb1⟩
    · have HT : Hid (Value.tuple #[.string (toldS z), .int .i64 (toldE z)] = .tuple #[.string ⟨#[]⟩, .int .i64 6]) := by
        have e : ¬ fits z = true := by rw [fits, decide_eq_true_iff, HK.out]; exact hf
        show _ = _; rw [toldS, toldE, if_neg e, if_neg e]
      clear hz
      go_enter Tryz.func126, Tryz.ntmps126
      go_wp2_with fail
      refine (text_any _ _ _ _ _ z hbl ha1 hL).mono ?_
      rintro e w1 ⟨rfl, hb1⟩
      rw [HS.out]
      have x0 := cell_later (j := 0) O1.out hb1
      simp at x0
      go_wp2
      go_ret2
      exact ⟨by rw [HT.out]; rfl, chain hW hb1⟩
  · obtain rfl : bl = false := by rw [hbl.out]; simp; omega
    rw [if_neg hz] at hsz
    by_cases hf : k ≤ 600
    · have HT : Hid (Value.tuple #[.string (toldS z), .int .i64 (toldE z)] = .tuple #[.string S, .int .i64 0]) := by
        have e : fits z = true := by rw [fits, decide_eq_true_iff, HK.out]; exact hf
        show _ = _; rw [toldS, toldE, if_pos e, if_pos e, HS.out]
      clear hz
      go_enter Tryz.func126, Tryz.ntmps126
      go_wp2_with fail
      refine (text_any _ _ _ _ _ z hbl ha1 hL).mono ?_
      rintro e w1 ⟨rfl, hb1⟩
      rw [HS.out]
      have x0 := cell_later (j := 0) O1.out hb1
      simp at x0
      go_wp2
      go_ret2
      exact ⟨by rw [HT.out]; rfl, chain hW hb1⟩
    · have HT : Hid (Value.tuple #[.string (toldS z), .int .i64 (toldE z)] = .tuple #[.string ⟨#[]⟩, .int .i64 6]) := by
        have e : ¬ fits z = true := by rw [fits, decide_eq_true_iff, HK.out]; exact hf
        show _ = _; rw [toldS, toldE, if_neg e, if_neg e]
      clear hz
      go_enter Tryz.func126, Tryz.ntmps126
      go_wp2_with fail
      refine (text_any _ _ _ _ _ z hbl ha1 hL).mono ?_
      rintro e w1 ⟨rfl, hb1⟩
      rw [HS.out]
      have x0 := cell_later (j := 0) O1.out hb1
      simp at x0
      go_wp2
      go_ret2
      exact ⟨by rw [HT.out]; rfl, chain hW hb1⟩

/-- Integer, so far: the digits cs, and y is left. -/
structure IntA (u k y : Nat) (cs : List Int) : Prop where
  len : cs.length = k
  val_ : val cs + 10000 ^ k * y = u
  dig : Dig cs
  le : k ≤ 5
  lt : y < 10000 ^ (5 - k)
theorem IntA.start {u : Nat} (h : u ≤ 9223372036854775808) : IntA u 0 u [] := ⟨rfl, by simp [val], Dig.nil, by omega, by
  have : (10000 : Nat) ^ (5 - 0) = 100000000000000000000 := by decide
  omega⟩
theorem IntA.step {u k y : Nat} {cs : List Int} (h : IntA u k y cs) (hy : 0 < y) : IntA u (k + 1) (y / 10000) (cs ++ [((y % 10000 : Nat) : Int)]) := by
  have hk : k < 5 := by
    have h1 := h.lt
    have h2 := h.le
    rcases Nat.lt_or_ge k 5 with h3 | h3
    · exact h3
    · obtain rfl : k = 5 := by omega
      simp at h1; omega
  refine ⟨by simp [h.len], ?_, Dig.append.2 ⟨h.dig, Dig.cons.2 ⟨by omega, Dig.nil⟩⟩, by omega, ?_⟩
  · have hv := h.val_
    rw [val_snoc, h.len, Int.pow_succ]
    have e : (y : Int) = 10000 * ((y / 10000 : Nat) : Int) + ((y % 10000 : Nat) : Int) := by omega
    rw [e] at hv
    rw [← hv]; grind
  · have h1 := h.lt
    have e : 5 - k = (5 - (k + 1)) + 1 := by omega
    rw [e, Nat.pow_succ] at h1
    exact Nat.div_lt_of_lt_mul (by rw [Nat.mul_comm]; exact h1)
theorem IntA.done {u k : Nat} {cs : List Int} (h : IntA u k 0 cs) : val cs = u := by have := h.val_; simpa using this

theorem IntA.left {u k y : Nat} {cs : List Int} (h : IntA u k y cs) (hu : u ≤ 9223372036854775808) : y ≤ 9223372036854775808 := by
  have h1 := h.val_
  have h3 := val_nonneg h.dig
  have hp := pow_le (i := 0) (j := k) (by omega)
  have h4 : 10000 ^ 0 * (y : Int) ≤ 10000 ^ k * y := Int.mul_le_mul_of_nonneg_right hp (by omega)
  simp at h4
  omega
set_option maxHeartbeats 2000000 in
theorem integer_any (w : World) (z : Int) (h0 : -9223372036854775808 ≤ z) (h1 : z ≤ 9223372036854775807) :
    Calls Tryz.prog 79 #[.int .i64 z] w (RetP w 5 z) := by
  obtain ⟨u, hu⟩ : ∃ u, z.natAbs = u := ⟨_, rfl⟩
  have hu1 : u ≤ 9223372036854775808 := by omega
  have hW : Below w.heap.size w (w.alloc (.cells #[.bool false, .slice none 0 0] 102)) := ((Below.refl w.heap.size w).alloc (Nat.le_refl _) _)
  have o1 := heap_last w (.cells #[.bool false, .slice none 0 0] 102)
  have O1 := Lib.hid o1
  clear o1
  have hsz : (w.alloc (.cells #[.bool false, .slice none 0 0] 102)).heap.size = w.heap.size + 1 := by simp
  have HSZ := Lib.hid hsz
  clear hsz
  have ho0 := OwnS.nil (w.alloc (.cells #[.bool false, .slice none 0 0] 102)) .i64 3 (w.heap.size + 1)
  have hbz : Below (w.heap.size + 1) (w.alloc (.cells #[.bool false, .slice none 0 0] 102)) (w.alloc (.cells #[.bool false, .slice none 0 0] 102)) := Below.refl _ _
  obtain ⟨wB, hwB⟩ : ∃ wB, w.alloc (.cells #[.bool false, .slice none 0 0] 102) = wB := ⟨_, rfl⟩
  by_cases hz : z < 0
  · obtain rfl : z = -(u : Int) := by omega
    have HB : Hid (u ≠ 0 → decide (0 < u) = decide (-(u : Int) < 0)) := fun h => by rw [Bool.eq_iff_iff]; simp only [decide_eq_true_eq]; omega
    go_enter Tryz.func79, Tryz.ntmps79
    go_wp2
    try rw [hwB]
    rw [hwB] at ho0 O1 HSZ hW
    have hsz := HSZ.out
    go_loopw [0, 3] (fun nv dv wr => ∃ (k y : Nat) (A : Option Addr) (c : Nat) (cs : List Int), nv = .int .i64 (-(y : Int)) ∧ dv = .slice A k c ∧ OwnS wr .i64 3 wB.heap.size A k c cs ∧ IntA u k y cs ∧ Below wB.heap.size wB wr) (fun nv _ _ => (intOf nv).natAbs)
    case atStart => exact ⟨0, u, none, 0, [], rfl, rfl, by rw [hsz]; exact ho0, IntA.start hu1, Below.refl _ _⟩
    case round =>
      obtain ⟨k, y, A, c, cs, rfl, rfl, hown, hP, hbw⟩ := hrel
      have hk5 := hP.le
      by_cases hy : 0 < y
      · have HP := Lib.hid (hP.step hy)
        obtain ⟨x, hx⟩ : ∃ x : Nat, y % 10000 = x := ⟨_, rfl⟩
        have hx1 : x < 10000 := by omega
        have hy1 := hP.left hu1
        have hsrc := int_one wr (x : Int)
        have hwa : Below wr.heap.size wr (wr.alloc (.cells #[.int .i64 (x : Int)] 3)) := (Below.refl _ _).alloc (Nat.le_refl _) _
        have hown1 := hown.after hwa
        have hsb : wB.heap.size ≤ wr.heap.size := hbw.size
        rw [hx] at HP
        obtain ⟨y2, hy2⟩ : ∃ y2, y / 10000 = y2 := ⟨_, rfl⟩
        have HDV := Lib.hid (show y2 < y by omega)
        rw [hy2] at HP
        have t1 : (-(y : Int)).tmod 10000 = -(x : Int) := by rw [Int.neg_tmod, ← hx]; rfl
        have t2 : (-(y : Int)).tdiv 10000 = -(y2 : Int) := by rw [Int.neg_tdiv, ← hy2]; rfl
        clear hP hown hx hy2
        have HWR : Hid (wrap64 (-(y2 : Int)) = -(y2 : Int)) := by show _ = _; have := HDV.out; unfold wrap64; omega
        by_cases hx0 : x = 0
        · subst hx0
          go_wp2_with (at_builtin; go_must (refine wpList_append rfl _ _ 100 rfl 3 .i64 8 Tryz.underlying100 infoInt wB.heap.size A k c cs rfl hown1 (some ⟨wr.heap.size, 0, none⟩) 1 1 [(0 : Int)] rfl hsrc (by omega) (by omega) (by simp; omega) ?_; intro A2 c2 w2 hown2 hbel2 _))
          go_roundw
          case rel => exact ⟨k + 1, y2, A2, c2, _, congrArg (Value.int .i64) HWR.out, rfl, hown2, HP.out, (hbw.trans (hwa.mono hbw.size)).trans hbel2⟩
          case measure => rw [HWR.out]; have := HDV.out; simp [intOf] <;> omega
        · have hx0' : 0 < x := by omega
          go_wp2_with (at_builtin; go_must (refine wpList_append rfl _ _ 100 rfl 3 .i64 8 Tryz.underlying100 infoInt wB.heap.size A k c cs rfl hown1 (some ⟨wr.heap.size, 0, none⟩) 1 1 [(x : Int)] rfl hsrc (by omega) (by omega) (by simp; omega) ?_; intro A2 c2 w2 hown2 hbel2 _))
          go_roundw
          case rel => exact ⟨k + 1, y2, A2, c2, _, congrArg (Value.int .i64) HWR.out, rfl, hown2, HP.out, (hbw.trans (hwa.mono hbw.size)).trans hbel2⟩
          case measure => rw [HWR.out]; have := HDV.out; simp [intOf] <;> omega
      · obtain rfl : y = 0 := by omega
        have hR := hown.rd
        have hv := hP.done
        have hd := hP.dig
        have hDs : Ds wr 5 A k c u := ⟨hk5, cs, hR, hd, hv⟩
        clear hP hown hR hv hd
        go_wp2_with fail
        refine (made_any _ (decide (0 < u)) _ _ _ u (-(u : Int)) hDs (by simp) HB.out).mono ?_
        rintro e w9 ⟨b1, A1, l1, c1, rfl, hb1, hA1, hbe1⟩
        have hbx := chain hbw hbe1
        have hW1 := chain hW hbx
        have hs := hW1.size
        have y1 := cell_later (j := 0) O1.out hbx
        have y2 := cell_later (j := 1) O1.out hbx
        have g1 := frozen_later O1.out hbx 0
        have g2 := frozen_later O1.out hbx 1
        simp at y1 y2
        have HA := Lib.hid hA1
        have HF := Lib.hid (hA1.off (g := w.heap.size) (blk_later O1.out hbx) (by simp) (by simp))
        clear hA1
        have hs2 := hbx.size
        go_wp2
        refine bodyPost_ret (v := .agg #[.bool b1, .slice A1 l1 c1]) (by simp [results, Tryz.results79, go_sem, y1, y2]) rfl ⟨_, _, _, _, rfl, hb1, (HA.out.setCell HF.out).setCell HF.out, (hW1.setCell (by simp <;> omega) _).setCell (by simp <;> omega) _⟩
  · obtain rfl : z = (u : Int) := by omega
    have HB : Hid (u ≠ 0 → false = decide ((u : Int) < 0)) := fun _ => by simp
    go_enter Tryz.func79, Tryz.ntmps79
    go_wp2
    try rw [hwB]
    rw [hwB] at ho0 O1 HSZ hW
    have hsz := HSZ.out
    go_loopw [0, 3] (fun nv dv wr => ∃ (k y : Nat) (A : Option Addr) (c : Nat) (cs : List Int), nv = .int .i64 ((y : Int)) ∧ dv = .slice A k c ∧ OwnS wr .i64 3 wB.heap.size A k c cs ∧ IntA u k y cs ∧ Below wB.heap.size wB wr) (fun nv _ _ => (intOf nv).natAbs)
    case atStart => exact ⟨0, u, none, 0, [], rfl, rfl, by rw [hsz]; exact ho0, IntA.start hu1, Below.refl _ _⟩
    case round =>
      obtain ⟨k, y, A, c, cs, rfl, rfl, hown, hP, hbw⟩ := hrel
      have hk5 := hP.le
      by_cases hy : 0 < y
      · have HP := Lib.hid (hP.step hy)
        obtain ⟨x, hx⟩ : ∃ x : Nat, y % 10000 = x := ⟨_, rfl⟩
        have hx1 : x < 10000 := by omega
        have hy1 := hP.left hu1
        have hsrc := int_one wr (x : Int)
        have hwa : Below wr.heap.size wr (wr.alloc (.cells #[.int .i64 (x : Int)] 3)) := (Below.refl _ _).alloc (Nat.le_refl _) _
        have hown1 := hown.after hwa
        have hsb : wB.heap.size ≤ wr.heap.size := hbw.size
        rw [hx] at HP
        obtain ⟨y2, hy2⟩ : ∃ y2, y / 10000 = y2 := ⟨_, rfl⟩
        have HDV := Lib.hid (show y2 < y by omega)
        rw [hy2] at HP
        have HX : Hid ((y : Int) % 10000 = x) := by show _ = _; omega
        have HY : Hid ((y : Int) / 10000 = y2) := by show _ = _; omega
        have hxI : ((x : Int) < 0) = False := by simp
        clear hP hown hx hy2
        go_wp2_with (at_builtin; go_must (rw [HX.out]; refine wpList_append rfl _ _ 100 rfl 3 .i64 8 Tryz.underlying100 infoInt wB.heap.size A k c cs rfl hown1 (some ⟨wr.heap.size, 0, none⟩) 1 1 [(x : Int)] rfl hsrc (by omega) (by omega) (by simp; omega) ?_; intro A2 c2 w2 hown2 hbel2 _))
        go_roundw
        case rel => exact ⟨k + 1, y2, A2, c2, _, by rw [HY.out], rfl, hown2, HP.out, (hbw.trans (hwa.mono hbw.size)).trans hbel2⟩
        case measure => rw [HY.out]; have := HDV.out; simp [intOf] <;> omega
      · obtain rfl : y = 0 := by omega
        have hR := hown.rd
        have hv := hP.done
        have hd := hP.dig
        have hDs : Ds wr 5 A k c u := ⟨hk5, cs, hR, hd, hv⟩
        clear hP hown hR hv hd
        go_wp2_with fail
        refine (made_any _ false _ _ _ u (u : Int) hDs (by simp) HB.out).mono ?_
        rintro e w9 ⟨b1, A1, l1, c1, rfl, hb1, hA1, hbe1⟩
        have hbx := chain hbw hbe1
        have hW1 := chain hW hbx
        have hs := hW1.size
        have y1 := cell_later (j := 0) O1.out hbx
        have y2 := cell_later (j := 1) O1.out hbx
        have g1 := frozen_later O1.out hbx 0
        have g2 := frozen_later O1.out hbx 1
        simp at y1 y2
        have HA := Lib.hid hA1
        have HF := Lib.hid (hA1.off (g := w.heap.size) (blk_later O1.out hbx) (by simp) (by simp))
        clear hA1
        have hs2 := hbx.size
        go_wp2
        refine bodyPost_ret (v := .agg #[.bool b1, .slice A1 l1 c1]) (by simp [results, Tryz.results79, go_sem, y1, y2]) rfl ⟨_, _, _, _, rfl, hb1, (HA.out.setCell HF.out).setCell HF.out, (hW1.setCell (by simp <;> omega) _).setCell (by simp <;> omega) _⟩
end Go.Proofs.YtkajibniibjblaaGreatDoor.P4

namespace Go.Proofs.YtkajibniibjblaaGreatDoor.P4
open Go.RowKit
set_option maxRecDepth 100000

theorem made_same (w : World) {L : Nat} (bl : Bool) (A : Option Addr) (n c a : Nat) (z : Int) (ha : Ds w L A n c a) (hz : z.natAbs = a) (hb : a ≠ 0 → bl = decide (z < 0)) :
    Calls Tryz.prog 122 #[.bool bl, .slice A n c] w fun e w' => ∃ b' l, e = .returned (.agg #[.bool b', .slice A l c]) ∧ Hid (b' = decide (z < 0)) ∧ Ms w' L A l c z.natAbs ∧ l ≤ n ∧ Below w.heap.size w w' := by
  obtain ⟨hla, xs, hx, dx, vx⟩ := ha
  have hW : Below w.heap.size w (w.alloc (.cells #[.bool false, .slice none 0 0] 102)) := ((Below.refl w.heap.size w).alloc (Nat.le_refl _) _)
  have o1 := heap_last w (.cells #[.bool false, .slice none 0 0] 102)
  have O1 := Lib.hid o1
  clear o1
  have hsz : (w.alloc (.cells #[.bool false, .slice none 0 0] 102)).heap.size = w.heap.size + 1 := by simp
  have HSZ := Lib.hid hsz
  clear hsz
  have hx1 := hx.below hW
  have hms : Ms w L A (tl xs).length c a := ⟨by have := tl_length xs; have := hx.len; omega, _, hx.tl_, Nm.of_dig dx vx⟩
  have hal : ∀ o, Below w.heap.size w (w.alloc o) := fun o => (Below.refl _ _).alloc (Nat.le_refl _) _
  subst hz
  have HMS := Lib.hid hms
  have hl0 := hms.len_zero
  clear hms
  obtain ⟨l, hl⟩ : ∃ l, (tl xs).length = l := ⟨_, rfl⟩
  have hln : l ≤ n := by have h1 := tl_length xs; have h2 := hx.len; omega
  have HL := Lib.hid hl
  rw [hl] at HMS hl0
  clear hl
  cases bl with
  | false =>
    have HB : Hid (false = decide (z < 0)) := by
      show false = _
      rcases Nat.eq_zero_or_pos z.natAbs with h | h
      · rw [show z = 0 by omega]; rfl
      · exact hb (by omega)
    clear hb
    go_enter Tryz.func122, Tryz.ntmps122
    go_wp2_with (go_at_call 158; refine (cut_any _ _ _ _ _ hx1).mono ?_; rintro e w' ⟨rfl, rfl⟩; rw [HL.out])
    refine bodyPost_ret (v := .agg #[.bool false, .slice A l c]) (by simp [results, Tryz.results122, go_sem]) rfl ⟨_, _, rfl, HB, HMS.out.below (hal _), hln, hal _⟩
  | true =>
    have HB : Hid (decide (0 < l) = decide (z < 0)) := by
      show _ = decide (z < 0)
      rcases Nat.eq_zero_or_pos z.natAbs with h | h
      · rw [hl0.2 h, show z = 0 by omega]; rfl
      · rw [← hb (by omega)]
        have : 0 < l := Nat.pos_of_ne_zero fun e => by have := hl0.1 e; omega
        simp [this]
    clear hb
    go_enter Tryz.func122, Tryz.ntmps122
    go_wp2_with (go_at_call 158; refine (cut_any _ _ _ _ _ hx1).mono ?_; rintro e w' ⟨rfl, rfl⟩; rw [HL.out])
    refine bodyPost_ret (v := .agg #[.bool (decide (0 < l)), .slice A l c]) (by simp [results, Tryz.results122, go_sem]) rfl ⟨_, _, rfl, HB, HMS.out.below (hal _), hln, hal _⟩


theorem ediv_pos (y : Int) (d : Nat) (hd : 0 < d) (hr : 0 ≤ y ∨ y.natAbs % d = 0) : y / (d : Int) = if y < 0 then -((y.natAbs / d : Nat) : Int) else ((y.natAbs / d : Nat) : Int) := by
  have hm := Nat.div_add_mod y.natAbs d
  have hlt := Nat.mod_lt y.natAbs hd
  generalize y.natAbs / d = q at *
  generalize y.natAbs % d = r at *
  have hq : ((d * q : Nat) : Int) = d * q := by simp
  by_cases hy : y < 0
  · rw [if_pos hy]
    have hr0 : r = 0 := by omega
    have e : y = d * (-(q : Int)) := by rw [Int.mul_neg]; omega
    rw [e, Int.mul_ediv_cancel_left _ (by omega)]
  · rw [if_neg hy]
    have e : y = r + d * (q : Int) := by omega
    rw [e, Int.add_mul_ediv_left _ _ (by omega), Int.ediv_eq_zero_of_lt (by omega) (by omega)]
    omega
theorem ediv_abs {y z : Int} (hz : z ≠ 0) (hr : 0 ≤ y ∨ y.natAbs % z.natAbs = 0) : (y / z).natAbs = y.natAbs / z.natAbs ∧ (y.natAbs / z.natAbs ≠ 0 → (decide (y < 0) != decide (z < 0)) = decide (y / z < 0)) := by
  have hp := ediv_pos y z.natAbs (by omega) hr
  by_cases hz0 : z < 0
  · have e : y / z = -(y / (z.natAbs : Int)) := by
      have : z = -(z.natAbs : Int) := by omega
      conv => lhs; rw [this]
      rw [Int.ediv_neg]
    rw [e, hp]
    generalize y.natAbs / z.natAbs = q
    by_cases hy : y < 0
    · rw [if_pos hy]
      refine ⟨by omega, fun h => ?_⟩
      have h1 : ¬ (- -(q : Int) < 0) := by omega
      simp [hy, hz0]; try omega
    · rw [if_neg hy]
      refine ⟨by omega, fun h => ?_⟩
      have h1 : -(q : Int) < 0 := by omega
      simp [hy, hz0]; try omega
  · have e : y / z = y / (z.natAbs : Int) := by
      have : z = (z.natAbs : Int) := by omega
      conv => lhs; rw [this]
    rw [e, hp]
    generalize y.natAbs / z.natAbs = q
    by_cases hy : y < 0
    · rw [if_pos hy]
      refine ⟨by omega, fun h => ?_⟩
      have h1 : -(q : Int) < 0 := by omega
      simp [hy, hz0]; try omega
    · rw [if_neg hy]
      refine ⟨by omega, fun h => ?_⟩
      have h1 : ¬ ((q : Int) < 0) := by omega
      simp [hy, hz0]; try omega

set_option maxHeartbeats 4000000 in
theorem pparts_any (w : World) {L : Nat} (bl : Bool) (A : Option Addr) (n c : Nat) (y : Int) (hbl : Hid (bl = decide (y < 0))) (ha : Ms w L A n c y.natAbs) (bm : Bool) (B : Option Addr) (m d : Nat) (z : Int) (hbm : Hid (bm = decide (z < 0))) (hb : Ms w L B m d z.natAbs) (hz : z ≠ 0) (hr : 0 ≤ y ∨ y.natAbs % z.natAbs = 0) (hL : L ≤ 100000000) :
    Calls Tryz.prog 129 #[.agg #[.bool bl, .slice A n c], .agg #[.bool bm, .slice B m d]] w fun e w' => ∃ b1 A1 l1 c1 b2 A2 l2 c2, e = .returned (.tuple #[.agg #[.bool b1, .slice A1 l1 c1], .agg #[.bool b2, .slice A2 l2 c2]]) ∧ Hid (b1 = decide (y / z < 0)) ∧ Ms w' L A1 l1 c1 (y / z).natAbs ∧ b2 = false ∧ Ms w' L A2 l2 c2 (y % z).natAbs ∧ Below w.heap.size w w' := by
  have hmod : Hid ((y % z).natAbs = y.natAbs % z.natAbs) := by
    show _ = _
    rcases hr with h | h
    · have e := Int.natAbs_emod_of_nonneg h z
      rw [e]
    · have h1 : z ∣ y := Int.natAbs_dvd_natAbs.1 (Nat.dvd_of_mod_eq_zero h)
      rw [h, Int.emod_eq_zero_of_dvd h1]; rfl
  obtain ⟨hq1, hq2⟩ := ediv_abs hz hr
  have HQ1 := Lib.hid hq1
  have HQ2 : Hid (y.natAbs / z.natAbs ≠ 0 → (!(bl == bm)) = decide (y / z < 0)) := by show _ → _; intro h; rw [hbl.out, hbm.out]; exact hq2 h
  have hz0 : 0 < z.natAbs := by omega
  have hR0 : Hid (y.natAbs % z.natAbs ≠ 0 → bl = decide ((((y % z).natAbs : Nat) : Int) < 0)) := by
    show _ → _
    intro h
    rcases hr with h1 | h1
    · rw [hbl.out]; simp; omega
    · exact absurd h1 h
  have hW : Below w.heap.size w ((((w.alloc (.cells #[.bool bl, .slice A n c] 102)).alloc (.cells #[.bool bm, .slice B m d] 102)).alloc (.cells #[.bool false, .slice none 0 0] 102)).alloc (.cells #[.bool false, .slice none 0 0] 102)) := (((((Below.refl w.heap.size w).alloc (Nat.le_refl _) _).alloc (by simp <;> omega) _).alloc (by simp <;> omega) _).alloc (by simp <;> omega) _)
  have o1 := heap_more (heap_more (heap_more (heap_last w (.cells #[.bool bl, .slice A n c] 102)) (.cells #[.bool bm, .slice B m d] 102)) (.cells #[.bool false, .slice none 0 0] 102)) (.cells #[.bool false, .slice none 0 0] 102)
  have O1 := Lib.hid o1
  clear o1
  have o2 := heap_more (heap_more (heap_last (w.alloc (.cells #[.bool bl, .slice A n c] 102)) (.cells #[.bool bm, .slice B m d] 102)) (.cells #[.bool false, .slice none 0 0] 102)) (.cells #[.bool false, .slice none 0 0] 102)
  rw [show (w.alloc (.cells #[.bool bl, .slice A n c] 102)).heap.size = w.heap.size + 1 by simp] at o2
  have O2 := Lib.hid o2
  clear o2
  have o3 := heap_more (heap_last ((w.alloc (.cells #[.bool bl, .slice A n c] 102)).alloc (.cells #[.bool bm, .slice B m d] 102)) (.cells #[.bool false, .slice none 0 0] 102)) (.cells #[.bool false, .slice none 0 0] 102)
  rw [show ((w.alloc (.cells #[.bool bl, .slice A n c] 102)).alloc (.cells #[.bool bm, .slice B m d] 102)).heap.size = w.heap.size + 1 + 1 by simp] at o3
  have O3 := Lib.hid o3
  clear o3
  have o4 := heap_last (((w.alloc (.cells #[.bool bl, .slice A n c] 102)).alloc (.cells #[.bool bm, .slice B m d] 102)).alloc (.cells #[.bool false, .slice none 0 0] 102)) (.cells #[.bool false, .slice none 0 0] 102)
  rw [show (((w.alloc (.cells #[.bool bl, .slice A n c] 102)).alloc (.cells #[.bool bm, .slice B m d] 102)).alloc (.cells #[.bool false, .slice none 0 0] 102)).heap.size = w.heap.size + 1 + 1 + 1 by simp] at o4
  have O4 := Lib.hid o4
  clear o4
  have hsz : ((((w.alloc (.cells #[.bool bl, .slice A n c] 102)).alloc (.cells #[.bool bm, .slice B m d] 102)).alloc (.cells #[.bool false, .slice none 0 0] 102)).alloc (.cells #[.bool false, .slice none 0 0] 102)).heap.size = w.heap.size + 1 + 1 + 1 + 1 := by simp
  have HSZ := Lib.hid hsz
  clear hsz
  have HS : Hid (∀ w', Below ((((w.alloc (.cells #[.bool bl, .slice A n c] 102)).alloc (.cells #[.bool bm, .slice B m d] 102)).alloc (.cells #[.bool false, .slice none 0 0] 102)).alloc (.cells #[.bool false, .slice none 0 0] 102)).heap.size ((((w.alloc (.cells #[.bool bl, .slice A n c] 102)).alloc (.cells #[.bool bm, .slice B m d] 102)).alloc (.cells #[.bool false, .slice none 0 0] 102)).alloc (.cells #[.bool false, .slice none 0 0] 102)) w' → w'.cell? ⟨w.heap.size, 0, none⟩ = some (.bool bl) ∧ w'.cell? ⟨w.heap.size, 1, none⟩ = some (.slice A n c) ∧ w'.cell? ⟨w.heap.size + 1, 0, none⟩ = some (.bool bm) ∧ w'.cell? ⟨w.heap.size + 1, 1, none⟩ = some (.slice B m d)) := fun w' h => ⟨cell_later O1.out h, cell_later O1.out h, cell_later O2.out h, cell_later O2.out h⟩
  have ha1 := ha.below hW
  have hb1 := hb.below hW
  go_enter Tryz.func129, Tryz.ntmps129
  go_wp2_with (first | (go_quiet (fail)) | fail)
  refine (parts_any _ _ _ _ _ _ _ _ _ ha1 hb1 hz0 hL).mono ?_
  rintro e w1 ⟨A1, l1, c1, A2, l2, c2, rfl, hq, hr', hb0⟩
  have HQO := Lib.hid hq.old
  have HRO := Lib.hid hr'.old
  have HS1 : Hid (∀ w', Below w1.heap.size w1 w' → w'.cell? ⟨w.heap.size, 0, none⟩ = some (.bool bl) ∧ w'.cell? ⟨w.heap.size, 1, none⟩ = some (.slice A n c) ∧ w'.cell? ⟨w.heap.size + 1, 0, none⟩ = some (.bool bm) ∧ w'.cell? ⟨w.heap.size + 1, 1, none⟩ = some (.slice B m d)) := fun w' h => HS.out w' (chain hb0 h)
  have HQM := Lib.hid hq
  have HRM := Lib.hid hr'
  have hW1 := chain hW hb0
  clear hq hr' HS hr ha hb ha1 hb1 hbl hbm hq1 hq2
  go_upto_region 2 with fail
  go_cut [8, 9] (fun px py wx => ∃ gx gy b3 l3 b4 l4, px = .pointer (some ⟨gx, 0, none⟩) ∧ py = .pointer (some ⟨gy, 0, none⟩) ∧ w1.heap.size ≤ gx ∧ w1.heap.size ≤ gy ∧ wx.cell? ⟨gx, 0, none⟩ = some (.bool b3) ∧ wx.cell? ⟨gx, 1, none⟩ = some (.slice A1 l3 c1) ∧ wx.cell? ⟨gy, 0, none⟩ = some (.bool b4) ∧ wx.cell? ⟨gy, 1, none⟩ = some (.slice A2 l4 c2) ∧ Hid (b3 = decide (y / z < 0)) ∧ Hid (b4 = false) ∧ Ms wx L A1 l3 c1 (y / z).natAbs ∧ Ms wx L A2 l4 c2 (y % z).natAbs ∧ Below w1.heap.size w1 wx)
  case first =>
    go_region_held3 (fun w' => w'.cell? ⟨w.heap.size, 0, none⟩ = some (.bool bl) ∧ w'.cell? ⟨w.heap.size, 1, none⟩ = some (.slice A n c) ∧ w'.cell? ⟨w.heap.size + 1, 0, none⟩ = some (.bool bm) ∧ w'.cell? ⟨w.heap.size + 1, 1, none⟩ = some (.slice B m d))
      ((refine HS1.out _ ?_; repeat (first | with_reducible exact Below.refl _ _ | with_reducible exact hd1 | with_reducible exact hd2 | (with_reducible refine Below.setCell ?_ (by first | omega | (simp <;> omega)) _) | (with_reducible refine Below.alloc ?_ (by first | omega | (simp <;> omega)) _) | with_reducible refine Below.drew ?_)))
      (first
        | (go_at_call 122; (fail_if_success (have hq := hM1)); (refine (made_same (L := L) _ (!(bl == bm)) A1 l1 c1 (y.natAbs / z.natAbs) (y / z) ?hx1 HQ1.out HQ2.out).mono ?_); (case hx1 => refine (HQM.out.below ?_).ds; repeat (first | with_reducible exact Below.refl _ _ | with_reducible exact hd1 | with_reducible exact hd2 | (with_reducible refine Below.setCell ?_ (by first | omega | (simp <;> omega)) _) | (with_reducible refine Below.alloc ?_ (by first | omega | (simp <;> omega)) _) | with_reducible refine Below.drew ?_)); rintro e v1 ⟨b3, l3, rfl, hB1, hM1, hln1, hb1'⟩; have hcl1 := (bcell hb1').1; have hfr1 := (bcell hb1').2; have hs1 := hb1'.size; (try simp at hs1); (try have ht1 : w1.heap.size < v1.heap.size := by omega); (try have ht2 : w1.heap.size + 1 < v1.heap.size := by omega); have hd1 : Below w1.heap.size w1 v1 := (by refine Below.trans ?_ (hb1'.mono (by first | omega | (simp <;> omega))); repeat (first | with_reducible exact Below.refl _ _ | with_reducible exact hd1 | with_reducible exact hd2 | (with_reducible refine Below.setCell ?_ (by first | omega | (simp <;> omega)) _) | (with_reducible refine Below.alloc ?_ (by first | omega | (simp <;> omega)) _) | with_reducible refine Below.drew ?_)))
        | (go_at_call 122; (refine (made_same (L := L) _ bl A2 l2 c2 (y.natAbs % z.natAbs) ((y % z).natAbs : Nat) ?hx2 (by rw [Int.natAbs_natCast]; exact hmod.out) hR0.out).mono ?_); (case hx2 => refine (HRM.out.below ?_).ds; repeat (first | with_reducible exact Below.refl _ _ | with_reducible exact hd1 | with_reducible exact hd2 | (with_reducible refine Below.setCell ?_ (by first | omega | (simp <;> omega)) _) | (with_reducible refine Below.alloc ?_ (by first | omega | (simp <;> omega)) _) | with_reducible refine Below.drew ?_)); rintro e v2 ⟨b4, l4, rfl, hB2, hM2, hln2, hb2'⟩; have hcl2 := (bcell hb2').1; have hfr2 := (bcell hb2').2; have hs2 := hb2'.size; (try simp at hs2); (try have hu1 : v1.heap.size < v2.heap.size := by omega); (try have hu2 : v1.heap.size + 1 < v2.heap.size := by omega); (try have hu3 : w1.heap.size < v2.heap.size := by omega); (try have hu4 : w1.heap.size + 1 < v2.heap.size := by omega); (try have hu5 : w1.heap.size < v1.heap.size + 1 := by omega); have hd2 : Below w1.heap.size w1 v2 := (by refine Below.trans ?_ (hb2'.mono (by first | omega | (simp <;> omega))); repeat (first | with_reducible exact Below.refl _ _ | with_reducible exact hd1 | with_reducible exact hd2 | (with_reducible refine Below.setCell ?_ (by first | omega | (simp <;> omega)) _) | (with_reducible refine Below.alloc ?_ (by first | omega | (simp <;> omega)) _) | with_reducible refine Below.drew ?_))))
    all_goals (
      go_wp2_with fail
      go_meet
      refine ⟨_, _, b3, l3, b4, l4, rfl, rfl, ?_, ?_, ?_, ?_, ?_, ?_, hB1, ?_, ?_, ?_, ?_⟩
      · first | omega | (simp <;> omega)
      · first | omega | (simp <;> omega)
      · first | (go_simp; done) | (go_simp; refine World.cell?_setCell_same (u := .bool false) _ _ _ ?_; go_simp; done) | (go_simp; refine (World.cell?_setCell_other _ _ _ _ (by simp <;> omega)).trans ?_; go_simp; done)
      · first | (go_simp; done) | (go_simp; refine World.cell?_setCell_same (u := .slice none 0 0) _ _ _ ?_; go_simp; done) | (go_simp; refine (World.cell?_setCell_other _ _ _ _ (by simp <;> omega)).trans ?_; go_simp; done)
      · first | (go_simp; done) | (go_simp; refine World.cell?_setCell_same (u := .bool false) _ _ _ ?_; go_simp; done) | (go_simp; refine (World.cell?_setCell_other _ _ _ _ (by simp <;> omega)).trans ?_; go_simp; done)
      · first | (go_simp; done) | (go_simp; refine World.cell?_setCell_same (u := .slice none 0 0) _ _ _ ?_; go_simp; done) | (go_simp; refine (World.cell?_setCell_other _ _ _ _ (by simp <;> omega)).trans ?_; go_simp; done)
      · show b4 = false; rw [hB2.out]; simp
      · repeat (first | with_reducible exact hM1 | (with_reducible refine Ms.setCell ?_ (fun ad e hl => by have h1 := HQO.out ad e (by omega); first | omega | (simp <;> omega))) | (with_reducible refine Ms.below ?_ ((Below.refl _ _).alloc (Nat.le_refl _) _)) | (with_reducible refine Ms.below ?_ hb2') | (with_reducible refine Ms.below ?_ ((Below.refl _ _).drew)))
      · rw [Int.natAbs_natCast] at hM2; repeat (first | with_reducible exact hM2 | (with_reducible refine Ms.setCell ?_ (fun ad e hl => by have h1 := HRO.out ad e (by omega); first | omega | (simp <;> omega))) | (with_reducible refine Ms.below ?_ ((Below.refl _ _).alloc (Nat.le_refl _) _)) | (with_reducible refine Ms.below ?_ hb2') | (with_reducible refine Ms.below ?_ ((Below.refl _ _).drew)))
      · repeat (first | with_reducible exact Below.refl _ _ | with_reducible exact hd1 | with_reducible exact hd2 | (with_reducible refine Below.setCell ?_ (by first | omega | (simp <;> omega)) _) | (with_reducible refine Below.alloc ?_ (by first | omega | (simp <;> omega)) _) | with_reducible refine Below.drew ?_))
  case rest =>
    obtain ⟨gx, gy, b3, l3, b4, l4, rfl, rfl, hgx, hgy, c0, c1', c2', c3, hB3, hB4, hM3, hM4, hbc⟩ := hcut
    have e4 := hB4.out
    subst e4
    have hbx := chain hb0 hbc
    have hW2 := chain hW hbx
    have hs := hW2.size
    have hs2 := hbx.size
    simp at hs2
    have y1 := cell_later (j := 0) O3.out hbx
    have y2 := cell_later (j := 1) O3.out hbx
    have y3 := cell_later (j := 0) O4.out hbx
    have y4 := cell_later (j := 1) O4.out hbx
    have g1 := frozen_later O3.out hbx 0
    have g2 := frozen_later O3.out hbx 1
    have g3 := frozen_later O4.out hbx 0
    have g4 := frozen_later O4.out hbx 1
    simp at y1 y2 y3 y4
    have HF1 := Lib.hid (hM3.off (g := w.heap.size + 1 + 1) (blk_later O3.out hbx) (by simp) (by simp))
    have HF2 := Lib.hid (hM3.off (g := w.heap.size + 1 + 1 + 1) (blk_later O4.out hbx) (by simp) (by simp))
    have HG1 := Lib.hid (hM4.off (g := w.heap.size + 1 + 1) (blk_later O3.out hbx) (by simp) (by simp))
    have HG2 := Lib.hid (hM4.off (g := w.heap.size + 1 + 1 + 1) (blk_later O4.out hbx) (by simp) (by simp))
    have HM3 := Lib.hid hM3
    have HM4 := Lib.hid hM4
    clear hM3 hM4
    have hs1 := hb0.size
    simp at hs1
    have hgx' : w.heap.size + 3 < gx := by omega
    have hgy' : w.heap.size + 3 < gy := by omega
    have d0 : wc.drew.cell? ⟨gx, 0, none⟩ = some (.bool b3) := c0
    have d1 : wc.drew.cell? ⟨gx, 1, none⟩ = some (.slice A1 l3 c1) := c1'
    have d2 : wc.drew.cell? ⟨gy, 0, none⟩ = some (.bool false) := c2'
    have d3 : wc.drew.cell? ⟨gy, 1, none⟩ = some (.slice A2 l4 c2) := c3
    go_wp2_with fail
    go_region_held3 (fun w' => w'.cell? ⟨gx, 0, none⟩ = some (.bool b3) ∧ w'.cell? ⟨gx, 1, none⟩ = some (.slice A1 l3 c1) ∧ w'.cell? ⟨gy, 0, none⟩ = some (.bool false) ∧ w'.cell? ⟨gy, 1, none⟩ = some (.slice A2 l4 c2))
      (first | exact ⟨d0, d1, d2, d3⟩ | exact ⟨(World.cell?_setCell_other _ _ _ _ (by simp <;> omega)).trans ((World.cell?_setCell_other _ _ _ _ (by simp <;> omega)).trans (d0)), (World.cell?_setCell_other _ _ _ _ (by simp <;> omega)).trans ((World.cell?_setCell_other _ _ _ _ (by simp <;> omega)).trans (d1)), (World.cell?_setCell_other _ _ _ _ (by simp <;> omega)).trans ((World.cell?_setCell_other _ _ _ _ (by simp <;> omega)).trans (d2)), (World.cell?_setCell_other _ _ _ _ (by simp <;> omega)).trans ((World.cell?_setCell_other _ _ _ _ (by simp <;> omega)).trans (d3))⟩ | exact ⟨(World.cell?_setCell_other _ _ _ _ (by simp <;> omega)).trans ((World.cell?_setCell_other _ _ _ _ (by simp <;> omega)).trans ((World.cell?_setCell_other _ _ _ _ (by simp <;> omega)).trans ((World.cell?_setCell_other _ _ _ _ (by simp <;> omega)).trans (d0)))), (World.cell?_setCell_other _ _ _ _ (by simp <;> omega)).trans ((World.cell?_setCell_other _ _ _ _ (by simp <;> omega)).trans ((World.cell?_setCell_other _ _ _ _ (by simp <;> omega)).trans ((World.cell?_setCell_other _ _ _ _ (by simp <;> omega)).trans (d1)))), (World.cell?_setCell_other _ _ _ _ (by simp <;> omega)).trans ((World.cell?_setCell_other _ _ _ _ (by simp <;> omega)).trans ((World.cell?_setCell_other _ _ _ _ (by simp <;> omega)).trans ((World.cell?_setCell_other _ _ _ _ (by simp <;> omega)).trans (d2)))), (World.cell?_setCell_other _ _ _ _ (by simp <;> omega)).trans ((World.cell?_setCell_other _ _ _ _ (by simp <;> omega)).trans ((World.cell?_setCell_other _ _ _ _ (by simp <;> omega)).trans ((World.cell?_setCell_other _ _ _ _ (by simp <;> omega)).trans (d3))))⟩)
      (fail)
    all_goals (
      go_wp2
      refine bodyPost_ret (v := .tuple #[.agg #[.bool b3, .slice A1 l3 c1], .agg #[.bool false, .slice A2 l4 c2]]) (by simp [results, Tryz.results129, go_sem, y1, y2, y3, y4]) rfl ⟨_, _, _, _, _, _, _, _, rfl, hB3, ?_, rfl, ?_, ?_⟩
      · repeat (first | with_reducible exact HM3.out | with_reducible refine Ms.setCell ?_ HF1.out | with_reducible refine Ms.setCell ?_ HF2.out | with_reducible refine Ms.below ?_ ((Below.refl _ _).drew))
      · repeat (first | with_reducible exact HM4.out | with_reducible refine Ms.setCell ?_ HG1.out | with_reducible refine Ms.setCell ?_ HG2.out | with_reducible refine Ms.below ?_ ((Below.refl _ _).drew))
      · repeat (first | with_reducible exact hW2 | (with_reducible refine Below.setCell ?_ (by simp <;> omega) _) | with_reducible refine Below.drew ?_))
end Go.Proofs.YtkajibniibjblaaGreatDoor.P4

namespace Go.Proofs.YtkajibniibjblaaGreatDoor.P4
open Go.RowKit
set_option maxRecDepth 100000

/-- A call returned the reference's ratio q. -/
def RetR (w : World) (L : Nat) (q : Rat) : Ending → World → Prop := fun e w' =>
  ∃ bl A l c B m d, e = .returned (.agg #[.bool bl, .slice A l c, .bool false, .slice B m d]) ∧ Hid (bl = decide (q.num < 0)) ∧ Ms w' L A l c q.num.natAbs ∧ Ms w' L B m d q.den ∧ Below w.heap.size w w'

theorem Ms.offc {w : World} {L : Nat} {A : Option Addr} {l c n g : Nat} {cs : Array Value} {T : TypeId} (h : Ms w L A l c n) (hg : w.heap[g]? = some (.cells cs T (0, 0))) (h0 : ∀ (j : Nat) v, cs[j]? = some v → ∀ d, v ≠ .int .i64 d) : ∀ ad, A = some ad → 0 < l → ad.block ≠ g := by
  intro ad e hl hbl
  obtain ⟨_, xs, hx, _⟩ := h
  obtain ⟨b, off, d, e', _, _, hc⟩ := hx.get hl
  rw [e] at e'
  injection e' with e'
  subst e'
  simp only at hbl
  subst hbl
  have := cell_later (j := off + 0) hg (Below.refl _ _)
  rw [hc] at this
  exact h0 _ _ this.symm d rfl
set_option maxHeartbeats 4000000 in
theorem rlowest_any (w : World) {L : Nat} (bl : Bool) (A : Option Addr) (n c : Nat) (y : Int) (hbl : Hid (bl = decide (y < 0))) (ha : Ms w L A n c y.natAbs) (B : Option Addr) (m d : Nat) (b : Nat) (hb : Ms w L B m d b) (hb0 : 0 < b) (hL : L ≤ 100000000) :
    Calls Tryz.prog 81 #[.agg #[.bool bl, .slice A n c], .agg #[.bool false, .slice B m d]] w (RetR w L (mkRat y b)) := by
  obtain ⟨g, hg⟩ : ∃ g, Nat.gcd y.natAbs b = g := ⟨_, rfl⟩
  have hgp : 0 < g := by rw [← hg]; exact Nat.gcd_pos_of_pos_right _ hb0
  have hdy : g ∣ y.natAbs := by rw [← hg]; exact Nat.gcd_dvd_left _ _
  have hdb : g ∣ b := by rw [← hg]; exact Nat.gcd_dvd_right _ _
  obtain ⟨c1, c2⟩ := norm_core y g hgp hdy
  obtain ⟨q1, q2, q3⟩ := norm_num y b hb0
  have HN : Hid ((y / (g : Int)).natAbs = (mkRat y b).num.natAbs) := by show _ = _; rw [c1, q1, hg]
  have HSG : Hid (decide (y / (g : Int) < 0) = decide ((mkRat y b).num < 0)) := by show _ = _; rw [c2, q3]
  have HDN : Hid (((b : Int) / (g : Int)).natAbs = (mkRat y b).den) := by show _ = _; rw [q2, hg, ← Int.natCast_ediv, Int.natAbs_natCast]
  have HG := Lib.hid hg
  have hym : 0 ≤ y ∨ y.natAbs % ((g : Int)).natAbs = 0 := .inr (by rw [Int.natAbs_natCast]; exact Nat.mod_eq_zero_of_dvd hdy)
  have HYM := Lib.hid hym
  have hgz : (g : Int) ≠ 0 := by omega
  clear hg hdy hdb c1 c2 q1 q2 q3 hym
  have hW : Below w.heap.size w (((w.alloc (.cells #[.bool bl, .slice A n c] 102)).alloc (.cells #[.bool false, .slice B m d] 102)).alloc (.cells #[.bool false, .slice none 0 0, .bool false, .slice none 0 0] 108)) := ((((Below.refl w.heap.size w).alloc (Nat.le_refl _) _).alloc (by simp <;> omega) _).alloc (by simp <;> omega) _)
  have o1 := heap_more (heap_more (heap_last w (.cells #[.bool bl, .slice A n c] 102)) (.cells #[.bool false, .slice B m d] 102)) (.cells #[.bool false, .slice none 0 0, .bool false, .slice none 0 0] 108)
  have O1 := Lib.hid o1
  clear o1
  have o2 := heap_more (heap_last (w.alloc (.cells #[.bool bl, .slice A n c] 102)) (.cells #[.bool false, .slice B m d] 102)) (.cells #[.bool false, .slice none 0 0, .bool false, .slice none 0 0] 108)
  rw [show (w.alloc (.cells #[.bool bl, .slice A n c] 102)).heap.size = w.heap.size + 1 by simp] at o2
  have O2 := Lib.hid o2
  clear o2
  have o3 := heap_last ((w.alloc (.cells #[.bool bl, .slice A n c] 102)).alloc (.cells #[.bool false, .slice B m d] 102)) (.cells #[.bool false, .slice none 0 0, .bool false, .slice none 0 0] 108)
  rw [show ((w.alloc (.cells #[.bool bl, .slice A n c] 102)).alloc (.cells #[.bool false, .slice B m d] 102)).heap.size = w.heap.size + 1 + 1 by simp] at o3
  have O3 := Lib.hid o3
  clear o3
  have hsz : (((w.alloc (.cells #[.bool bl, .slice A n c] 102)).alloc (.cells #[.bool false, .slice B m d] 102)).alloc (.cells #[.bool false, .slice none 0 0, .bool false, .slice none 0 0] 108)).heap.size = w.heap.size + 1 + 1 + 1 := by simp
  have HSZ := Lib.hid hsz
  clear hsz
  have HA := Lib.hid (ha.below hW)
  have HB := Lib.hid (hb.below hW)
  clear ha hb
  go_enter Tryz.func81, Tryz.ntmps81
  go_wp2_with fail
  refine (divisor_any _ bl A n c y.natAbs HA.out false B m d b HB.out hL).mono ?_
  rintro e w1 ⟨bg, Ag, lg, cg, rfl, hsg, hAg, hb1⟩
  obtain rfl : bg = false := by rw [hsg.out]; simp
  rw [HG.out] at hAg
  rw [Int.natAbs_natCast] at hAg
  have o1 := heap_last w1 (.cells #[.bool false, .slice Ag lg cg] 102)
  have hwa : Below w1.heap.size w1 (w1.alloc (.cells #[.bool false, .slice Ag lg cg] 102)) := (Below.refl _ _).alloc (Nat.le_refl _) _
  have OG := Lib.hid o1
  clear o1
  have hc1 := chain hb1 hwa
  have x0 := cell_later (j := 0) O1.out hc1
  have x1 := cell_later (j := 1) O1.out hc1
  simp at x0 x1
  have HGM := Lib.hid (hAg.below hwa)
  clear hAg
  go_wp2_with fail
  refine (pparts_any _ bl A n c y hbl (HA.out.below hc1) false Ag lg cg (g : Int) (show false = _ by simp) (by rw [Int.natAbs_natCast]; exact HGM.out) hgz HYM.out hL).mono ?_
  rintro e w2 ⟨bx, Ax, lx, cx, bx', Ax', lx', cx', rfl, hsx, hAx, rfl, _, hb2⟩
  rw [HN.out] at hAx
  rw [HSG.out] at hsx
  have hc2 := chain hc1 hb2
  have x2 := cell_later (j := 0) O2.out hc2
  have x3 := cell_later (j := 1) O2.out hc2
  have z0 := cell_later (j := 0) OG.out hb2
  have z1 := cell_later (j := 1) OG.out hb2
  simp at x2 x3 z0 z1
  have hz2 := hc2.size
  have hz1 := hb2.size
  simp at hz1 hz2
  have hs1 : w.heap.size + 1 < w2.heap.size := by omega
  have hs2 : w.heap.size + 1 < w2.heap.size + 1 := by omega
  have hs3 : w1.heap.size < w2.heap.size := by omega
  have hs4 : w1.heap.size < w2.heap.size + 1 := by omega
  clear x0 x1
  have hwb : Below w2.heap.size w2 ((w2.alloc (.cells #[.bool bx, .slice Ax lx cx] 102)).alloc (.cells #[.bool false, .slice Ax' lx' cx'] 102)) := below_alloc2 _ _ _
  have hc3 := chain hc2 hwb
  have OXX := Lib.hid (heap_more (heap_last w2 (.cells #[.bool bx, .slice Ax lx cx] 102)) (.cells #[.bool false, .slice Ax' lx' cx'] 102))
  have HX := Lib.hid (hAx.below hwb)
  clear hAx
  go_wp2_with fail
  refine (pparts_any _ false B m d (b : Int) (show false = _ by simp) (by rw [Int.natAbs_natCast]; exact HB.out.below hc3) false Ag lg cg (g : Int) (show false = _ by simp) (by rw [Int.natAbs_natCast]; exact (HGM.out.below hb2).below hwb) hgz (.inl (by omega)) hL).mono ?_
  rintro e w3 ⟨by_, Ay, ly, cy, by', Ay', ly', cy', rfl, hsy, hAy, rfl, _, hb3⟩
  have hbg : 0 ≤ (b : Int) / (g : Int) := Int.ediv_nonneg (by omega) (by omega)
  obtain rfl : by_ = false := by rw [hsy.out]; simp; omega
  rw [HDN.out] at hAy
  have hc4 := chain hc3 hb3
  have y0 := cell_later (j := 0) OXX.out hb3
  have y1 := cell_later (j := 1) OXX.out hb3
  simp at y0 y1
  have hz3 := hc4.size
  have hz4 := hb3.size
  simp at hz3 hz4
  have ht1 : w2.heap.size < w3.heap.size := by omega
  have ht2 : w2.heap.size < w3.heap.size + 1 := by omega
  have ht3 : w.heap.size + 1 + 1 < w3.heap.size := by omega
  have ht4 : w.heap.size + 1 + 1 < w3.heap.size + 1 := by omega
  have r0 := cell_later (j := 0) O3.out hc4
  have r1 := cell_later (j := 1) O3.out hc4
  have r2 := cell_later (j := 2) O3.out hc4
  have r3 := cell_later (j := 3) O3.out hc4
  have f0 := frozen_later O3.out hc4 0
  have f1 := frozen_later O3.out hc4 1
  have f2 := frozen_later O3.out hc4 2
  have f3 := frozen_later O3.out hc4 3
  simp at r0 r1 r2 r3
  have hwd : Below w3.heap.size w3 ((w3.alloc (.cells #[.bool false, .slice Ay ly cy] 102)).alloc (.cells #[.bool false, .slice Ay' ly' cy'] 102)) := below_alloc2 _ _ _
  have HXM := Lib.hid (HX.out.below hb3)
  have HYM := Lib.hid hAy
  have HXF := Lib.hid (HXM.out.offc (g := w.heap.size + 1 + 1) (blk_later O3.out hc4) (by intro j v h d e; subst e; rcases j with _ | _ | _ | _ | j <;> simp at h))
  have HYF := Lib.hid (HYM.out.offc (g := w.heap.size + 1 + 1) (blk_later O3.out hc4) (by intro j v h d e; subst e; rcases j with _ | _ | _ | _ | j <;> simp at h))
  have hW4 := chain hW hc4
  have hs9 := hW4.size
  clear x2 x3 z0 z1 hAy
  go_wp2
  refine bodyPost_ret (v := .agg #[.bool bx, .slice Ax lx cx, .bool false, .slice Ay ly cy]) (by simp [results, Tryz.results81, go_sem]; go_simp) rfl ⟨_, _, _, _, _, _, _, rfl, hsx, ?_, ?_, ?_⟩
  · exact ((((HXM.out.setCell HXF.out).setCell HXF.out).setCell HXF.out).setCell HXF.out).below (below_alloc2 _ _ _)
  · exact ((((HYM.out.setCell HYF.out).setCell HYF.out).setCell HYF.out).setCell HYF.out).below (below_alloc2 _ _ _)
  · repeat (first | with_reducible exact hW4 | (with_reducible refine Below.setCell ?_ (by first | omega | (simp <;> omega)) _) | (with_reducible refine Below.alloc ?_ (by first | omega | (simp <;> omega)) _))
end Go.Proofs.YtkajibniibjblaaGreatDoor.P4

namespace Go.Proofs.YtkajibniibjblaaGreatDoor.P4
open Go.RowKit
set_option maxRecDepth 100000

theorem ratio_field0 (W : World) (b : Bool) (A : Option Addr) (l c : Nat) (b' : Bool) (B : Option Addr) (m d : Nat) : (Instr.field 108 (.agg #[.bool b, .slice A l c, .bool b', .slice B m d]) 0).run Tryz.prog W = .ok (.agg #[.bool b, .slice A l c]) W := by kernel_rfl
theorem ratio_field1 (W : World) (b : Bool) (A : Option Addr) (l c : Nat) (b' : Bool) (B : Option Addr) (m d : Nat) : (Instr.field 108 (.agg #[.bool b, .slice A l c, .bool b', .slice B m d]) 1).run Tryz.prog W = .ok (.agg #[.bool b', .slice B m d]) W := by kernel_rfl

theorem rquick_any (w : World) (z : Int) (b : Nat) (h0 : -9223372036854775808 ≤ z) (h1 : z ≤ 9223372036854775807) (hb0 : 0 < b) (hb1 : b ≤ 9223372036854775807) :
    Calls Tryz.prog 83 #[.int .i64 z, .int .i64 (b : Int)] w (RetR w 5 (mkRat z b)) := by
  have hW : Below w.heap.size w (w.alloc (.cells #[.bool false, .slice none 0 0, .bool false, .slice none 0 0] 108)) := ((Below.refl w.heap.size w).alloc (Nat.le_refl _) _)
  have o1 := heap_last w (.cells #[.bool false, .slice none 0 0, .bool false, .slice none 0 0] 108)
  have O1 := Lib.hid o1
  clear o1
  have hsz : (w.alloc (.cells #[.bool false, .slice none 0 0, .bool false, .slice none 0 0] 108)).heap.size = w.heap.size + 1 := by simp
  have HSZ := Lib.hid hsz
  clear hsz
  go_enter Tryz.func83, Tryz.ntmps83
  go_wp2_with fail
  refine (integer_any _ z h0 h1).mono ?_
  rintro e w1 ⟨bz, A, l, c, rfl, hbz, hz, hw1⟩
  go_wp2_with fail
  refine (integer_any _ (b : Int) (by omega) (by omega)).mono ?_
  rintro e w2 ⟨bb, B, m, d, rfl, hbb, hb, hw2⟩
  obtain rfl : bb = false := by rw [hbb.out]; simp
  rw [Int.natAbs_natCast] at hb
  go_wp2_with fail
  refine (rlowest_any _ bz A l c z hbz (hz.below hw2) B m d b hb hb0 (by omega)).mono ?_
  rintro e w3 ⟨bl, A1, l1, c1, B1, m1, d1, rfl, hs, hn, hd, hw3⟩
  have hb3 := chain (chain hw1 hw2) hw3
  have hW3 := chain hW hb3
  have hbs := hW3.size
  have r0 := cell_later (j := 0) O1.out hb3
  have r1 := cell_later (j := 1) O1.out hb3
  have r2 := cell_later (j := 2) O1.out hb3
  have r3 := cell_later (j := 3) O1.out hb3
  have f0 := frozen_later O1.out hb3 0
  have f1 := frozen_later O1.out hb3 1
  have f2 := frozen_later O1.out hb3 2
  have f3 := frozen_later O1.out hb3 3
  simp at r0 r1 r2 r3
  have HXM := Lib.hid hn
  have HYM := Lib.hid hd
  have HXF := Lib.hid (HXM.out.offc (g := w.heap.size) (blk_later O1.out hb3) (by intro j v h d e; subst e; rcases j with _ | _ | _ | _ | j <;> simp at h))
  have HYF := Lib.hid (HYM.out.offc (g := w.heap.size) (blk_later O1.out hb3) (by intro j v h d e; subst e; rcases j with _ | _ | _ | _ | j <;> simp at h))
  clear hn hd
  go_wp2
  refine bodyPost_ret (v := .agg #[.bool bl, .slice A1 l1 c1, .bool false, .slice B1 m1 d1]) (by simp [results, Tryz.results83, go_sem]; go_simp) rfl ⟨_, _, _, _, _, _, _, rfl, hs, ?_, ?_, ?_⟩
  · exact (((HXM.out.setCell HXF.out).setCell HXF.out).setCell HXF.out).setCell HXF.out
  · exact (((HYM.out.setCell HYF.out).setCell HYF.out).setCell HYF.out).setCell HYF.out
  · repeat (first | with_reducible exact hW3 | (with_reducible refine Below.setCell ?_ (by first | omega | (simp <;> omega)) _) | (with_reducible refine Below.alloc ?_ (by first | omega | (simp <;> omega)) _))

theorem rout_any (w : World) {L : Nat} (bl : Bool) (A : Option Addr) (n c : Nat) (B : Option Addr) (m d : Nat) (q : Rat) (hbl : Hid (bl = decide (q.num < 0))) (ha : Ms w L A n c q.num.natAbs) (hb : Ms w L B m d q.den) (hL : L ≤ 100000000) :
    Calls Tryz.prog 80 #[.agg #[.bool bl, .slice A n c, .bool false, .slice B m d]] w fun e w' => e = .returned (.tuple #[toldQ q, .int .i64 (toldQE q)]) ∧ Below w.heap.size w w' := by
  have hf0 := ratio_field0
  have hf1 := ratio_field1
  have HD : Hid (false = decide ((q.den : Int) < 0)) := by show _ = _; simp
  have hW : Below w.heap.size w ((w.alloc (.cells #[.bool bl, .slice A n c, .bool false, .slice B m d] 108)).alloc (.cells #[.string ⟨#[]⟩, .string ⟨#[]⟩] 51)) := (((Below.refl w.heap.size w).alloc (Nat.le_refl _) _).alloc (by simp <;> omega) _)
  have o1 := heap_more (heap_last w (.cells #[.bool bl, .slice A n c, .bool false, .slice B m d] 108)) (.cells #[.string ⟨#[]⟩, .string ⟨#[]⟩] 51)
  have O1 := Lib.hid o1
  clear o1
  have o2 := heap_last (w.alloc (.cells #[.bool bl, .slice A n c, .bool false, .slice B m d] 108)) (.cells #[.string ⟨#[]⟩, .string ⟨#[]⟩] 51)
  rw [show (w.alloc (.cells #[.bool bl, .slice A n c, .bool false, .slice B m d] 108)).heap.size = w.heap.size + 1 by simp] at o2
  have O2 := Lib.hid o2
  clear o2
  have hsz : ((w.alloc (.cells #[.bool bl, .slice A n c, .bool false, .slice B m d] 108)).alloc (.cells #[.string ⟨#[]⟩, .string ⟨#[]⟩] 51)).heap.size = w.heap.size + 1 + 1 := by simp
  have HSZ := Lib.hid hsz
  clear hsz
  have ha1 := ha.below hW
  have hb1 := hb.below hW
  by_cases h1 : fits q.num = true
  · have he1 : toldE q.num = 0 := by rw [toldE, if_pos h1]
    by_cases h2 : fits (q.den : Int) = true
    · have he2 : toldE (q.den : Int) = 0 := by rw [toldE, if_pos h2]
      have HT : Hid (Value.tuple #[toldQ q, .int .i64 (toldQE q)] = .tuple #[.agg #[.string (toldS q.num), .string (toldS (q.den : Int))], .int .i64 0]) := by
        show _ = _; rw [toldQ, toldQE, fitsQ, h1, h2]; rfl
      clear h1 h2
      go_enter Tryz.func80, Tryz.ntmps80
      go_wp2_with fail
      refine (out_any _ _ _ _ _ q.num hbl ha1 hL).mono ?_
      rintro e w1 ⟨rfl, hk1⟩
      rw [he1]
      have x2 := cell_later (j := 2) O1.out hk1
      have x3 := cell_later (j := 3) O1.out hk1
      simp at x2 x3
      go_wp2_with fail
      refine (out_any _ _ _ _ _ (q.den : Int) HD (by rw [Int.natAbs_natCast]; exact hb1.below hk1) hL).mono ?_
      rintro e w2 ⟨rfl, hk2⟩
      rw [he2]
      have HB := chain hk1 hk2
      have hW3 := chain hW HB
      have hbs := hW3.size
      have y1 := cell_later (j := 0) O2.out HB
      have y2 := cell_later (j := 1) O2.out HB
      have g1 := frozen_later O2.out HB 0
      have g2 := frozen_later O2.out HB 1
      simp at y1 y2
      go_wp2
      refine bodyPost_ret (v := .tuple #[.agg #[.string (toldS q.num), .string (toldS (q.den : Int))], .int .i64 0]) (by simp [results, Tryz.results80, go_sem, y1, y2]) rfl ⟨by rw [HT.out], (hW3.setCell (by simp <;> omega) _).setCell (by simp <;> omega) _⟩
    · have he2 : toldE (q.den : Int) = 6 := by rw [toldE, if_neg h2]
      have HT : Hid (Value.tuple #[toldQ q, .int .i64 (toldQE q)] = .tuple #[.agg #[.string ⟨#[]⟩, .string ⟨#[]⟩], .int .i64 6]) := by
        show _ = _; rw [toldQ, toldQE, fitsQ]; simp [h2]
      clear h1 h2
      go_enter Tryz.func80, Tryz.ntmps80
      go_wp2_with fail
      refine (out_any _ _ _ _ _ q.num hbl ha1 hL).mono ?_
      rintro e w1 ⟨rfl, hk1⟩
      rw [he1]
      have x2 := cell_later (j := 2) O1.out hk1
      have x3 := cell_later (j := 3) O1.out hk1
      simp at x2 x3
      go_wp2_with fail
      refine (out_any _ _ _ _ _ (q.den : Int) HD (by rw [Int.natAbs_natCast]; exact hb1.below hk1) hL).mono ?_
      rintro e w2 ⟨rfl, hk2⟩
      rw [he2]
      have HB := chain hk1 hk2
      have hW3 := chain hW HB
      have hbs := hW3.size
      have y1 := cell_later (j := 0) O2.out HB
      have y2 := cell_later (j := 1) O2.out HB
      have g1 := frozen_later O2.out HB 0
      have g2 := frozen_later O2.out HB 1
      simp at y1 y2
      go_wp2
      refine bodyPost_ret (v := .tuple #[.agg #[.string ⟨#[]⟩, .string ⟨#[]⟩], .int .i64 6]) (by simp [results, Tryz.results80, go_sem, y1, y2]) rfl ⟨by rw [HT.out], (hW3.setCell (by simp <;> omega) _).setCell (by simp <;> omega) _⟩
  · have he1 : toldE q.num = 6 := by rw [toldE, if_neg h1]
    obtain ⟨f, he2⟩ : ∃ f, toldE (q.den : Int) = f := ⟨_, rfl⟩
    have HT : Hid (Value.tuple #[toldQ q, .int .i64 (toldQE q)] = .tuple #[.agg #[.string ⟨#[]⟩, .string ⟨#[]⟩], .int .i64 6]) := by
      show _ = _; rw [toldQ, toldQE, fitsQ]; simp [h1]
    clear h1
    go_enter Tryz.func80, Tryz.ntmps80
    go_wp2_with fail
    refine (out_any _ _ _ _ _ q.num hbl ha1 hL).mono ?_
    rintro e w1 ⟨rfl, hk1⟩
    rw [he1]
    have x2 := cell_later (j := 2) O1.out hk1
    have x3 := cell_later (j := 3) O1.out hk1
    simp at x2 x3
    go_wp2_with fail
    refine (out_any _ _ _ _ _ (q.den : Int) HD (by rw [Int.natAbs_natCast]; exact hb1.below hk1) hL).mono ?_
    rintro e w2 ⟨rfl, hk2⟩
    rw [he2]
    have HB := chain hk1 hk2
    have hW3 := chain hW HB
    have hbs := hW3.size
    have y1 := cell_later (j := 0) O2.out HB
    have y2 := cell_later (j := 1) O2.out HB
    have g1 := frozen_later O2.out HB 0
    have g2 := frozen_later O2.out HB 1
    simp at y1 y2
    go_wp2
    refine bodyPost_ret (v := .tuple #[.agg #[.string ⟨#[]⟩, .string ⟨#[]⟩], .int .i64 6]) (by simp [results, Tryz.results80, go_sem, y1, y2]) rfl ⟨by rw [HT.out], (hW3.setCell (by simp <;> omega) _).setCell (by simp <;> omega) _⟩
end Go.Proofs.YtkajibniibjblaaGreatDoor.P4
