/-
  ref01.Right at any string: whole's wok.
  ref01.In at the text of a whole number: its digits to the base 10^4.
  ref01.Parts of a number below zero by one above zero, with a remainder: the quotient is the floor.
  ref02's In, Times, Turn, Down, Order.
  ref01.Parts by a number above zero (floor), ref02.Down, ref01.Integral.
-/
import Derived.Test.YtkajibniibjblaaGreatDoorRef2
import Derived.Test.YtkajibniibjblaaGreatDoorCheck
import Derived.Test.YtkajibniibjblaaGreatDoorRef3
import Derived.Test.YtkajibniibjblaaGreatDoorGcd
import Derived.Test.YtkajibniibjblaaGreatDoorRead
namespace Go.Proofs.YtkajibniibjblaaGreatDoor.P4
open Go.RowKit
set_option maxRecDepth 100000

/-- Where a number's digits begin. -/
def FromW (l : List UInt8) (f : Nat) : Prop := (f = 1 ∧ l.head? = some 45) ∨ (f = 0 ∧ l.head? ≠ some 45)
theorem trim_from {l : List UInt8} {f : Nat} (hf : FromW l f) : Lib.trimPrefix l [45] = l.drop f := by
  rcases hf with ⟨rfl, h⟩ | ⟨rfl, h⟩
  · rcases l with _ | ⟨c, r⟩
    · simp at h
    · obtain rfl : c = 45 := by simpa using h
      rw [trimPrefix_minus]; rfl
  · rw [trimPrefix_other h]; rfl
theorem byte_head {s : ByteArray} (h : 0 < s.size) : s.data.toList.head? = some (s[0]'h) := by
  rcases s with ⟨⟨l⟩⟩
  cases l with
  | nil => simp [ByteArray.size] at h
  | cons _ _ => rfl
theorem byte_get {s : ByteArray} {k : Nat} (h : k < s.size) : s.data.toList[k]? = some (s[k]'h) := by
  rw [List.getElem?_eq_getElem (by exact h)]; rfl
theorem wok_short {s : ByteArray} {f : Nat} (hf : FromW s.data.toList f) (h : s.size ≤ f ∨ 600 + f < s.size) : wok s = false := by
  have hl : (s.data.toList.drop f).length = s.size - f := by rw [List.length_drop]; rfl
  unfold wok
  rw [trim_from hf]
  rcases h with h | h
  · have : s.data.toList.drop f = [] := List.eq_nil_of_length_eq_zero (by omega)
    simp [this]
  · have : ¬ (s.data.toList.drop f).length ≤ 600 := by omega
    dsimp only
    rw [decide_eq_false this]
    simp
theorem wok_other {s : ByteArray} {f k : Nat} (hf : FromW s.data.toList f) (hk : f ≤ k) (hs : k < s.size) (h : (s[k]'hs).toNat < 48 ∨ 57 < (s[k]'hs).toNat) : wok s = false := by
  have hd : digs (s.data.toList.drop f) = false := by
    cases hx : digs (s.data.toList.drop f) with
    | false => rfl
    | true =>
      have hm : s[k]'hs ∈ s.data.toList.drop f := by
        refine List.mem_of_getElem? (i := k - f) ?_
        rw [List.getElem?_drop, show f + (k - f) = k by omega]
        exact byte_get hs
      have := List.all_eq_true.1 hx _ hm
      simp [isDg] at this
      omega
  unfold wok
  rw [trim_from hf]
  simp [hd]
theorem wok_full {s : ByteArray} {f : Nat} (hf : FromW s.data.toList f) (hs : f < s.size) (h6 : s.size ≤ 600 + f) (hq : ∀ q (hq : q < s.size), f ≤ q → 48 ≤ (s[q]'hq).toNat ∧ (s[q]'hq).toNat ≤ 57) :
    wok s = (decide ((s[f]'hs).toNat ≠ 48) || decide (s.size = 1)) := by
  have hl : (s.data.toList.drop f).length = s.size - f := by rw [List.length_drop]; rfl
  have hd : digs (s.data.toList.drop f) = true := by
    refine List.all_eq_true.2 fun c hc => ?_
    obtain ⟨j, hj⟩ := List.getElem?_of_mem hc
    rw [List.getElem?_drop] at hj
    have hlt : f + j < s.size := by
      rcases Nat.lt_or_ge (f + j) s.size with h1 | h1
      · exact h1
      · rw [List.getElem?_eq_none (by exact h1)] at hj; cases hj
    rw [byte_get hlt] at hj
    injection hj with hj
    have := hq (f + j) hlt (by omega)
    rw [← hj]
    simp [isDg]
    omega
  have hh : (s.data.toList.drop f).head? = some (s[f]'hs) := by rw [List.head?_drop]; exact byte_get hs
  have hne : s.data.toList.drop f ≠ [] := by intro e; rw [e] at hl; simp at hl; omega
  have hb : (s[f]'hs = 48) ↔ ((s[f]'hs).toNat = 48) := ⟨fun e => by rw [e]; rfl, fun e => UInt8.toNat_inj.1 (by rw [e]; rfl)⟩
  unfold wok
  rw [trim_from hf]
  simp only [hd, hh, decide_eq_true hne, hl]
  rw [decide_eq_true (show s.size - f ≤ 600 by omega)]
  simp only [Bool.and_true, Bool.true_and, Option.some.injEq]
  rw [Bool.eq_iff_iff]
  simp only [Bool.not_eq_true', Bool.and_eq_false_imp, Bool.or_eq_false_iff, Bool.or_eq_true, decide_eq_true_eq, decide_eq_false_iff_not, hb]
  rcases hf with ⟨rfl, -⟩ | ⟨rfl, -⟩
  · constructor
    · intro h
      rcases Nat.lt_or_ge 1 s.size with h1 | h1
      · left; intro e; exact (h e).2 h1
      · omega
    · rintro (h | h)
      · intro e; exact absurd e h
      · omega
  · constructor
    · intro h
      by_cases e : (s[0]'hs).toNat = 48
      · right; have := h e; omega
      · left; exact e
    · rintro (h | h)
      · intro e; exact absurd e h
      · intro _; omega

theorem right_from (w : World) (s : ByteArray) (f : Nat) (hs : f < s.size) (hsz : s.size ≤ 1000000) (hf : FromW s.data.toList f)
    (h0 : f = 1 ∧ (s[0]'(by omega)).toNat = 45 ∨ f = 0 ∧ ¬ (s[0]'(by omega)).toNat = 45) :
    Calls Tryz.prog 148 #[.string s] w fun e w' => e = .returned (.bool (wok s)) ∧ Below w.heap.size w w' := by
  have hp : 0 < s.size := by omega
  have hp' : (0 : Int) < (s.size : Int) := by omega
  by_cases h6 : 600 + f < s.size
  · have HW := Lib.hid (wok_short hf (Or.inr h6))
    rcases h0 with ⟨rfl, h0⟩ | ⟨rfl, h0⟩
    · have h6' : (600 : Int) < (s.size : Int) - 1 := by omega
      go_enter Tryz.func148, Tryz.ntmps148
      go_wp2
      go_ret
      exact ⟨by rw [HW.out]; rfl, Below.refl _ _⟩
    · have h6' : (600 : Int) < (s.size : Int) := by omega
      go_enter Tryz.func148, Tryz.ntmps148
      go_wp2
      go_ret
      exact ⟨by rw [HW.out]; rfl, Below.refl _ _⟩
  rcases h0 with ⟨rfl, h0⟩ | ⟨rfl, h0⟩
  · have h6' : ¬ (600 : Int) < (s.size : Int) - 1 := by omega
    have h7' : ¬ (s.size : Int) - 1 < 1 := by omega
    go_enter Tryz.func148, Tryz.ntmps148
    go_wp2
    go_loopw [5] (fun t wr => ∃ k : Nat, 1 ≤ k ∧ k ≤ s.size ∧ t = .int .i64 (k : Int) ∧ Hid (∀ q (hq : q < s.size), 1 ≤ q → q < k → 48 ≤ (s[q]'hq).toNat ∧ (s[q]'hq).toNat ≤ 57) ∧ Below w.heap.size w wr) (fun t _ => s.size - (intOf t).toNat)
    case atStart => exact ⟨1, Nat.le_refl _, by omega, by go_num, Lib.hid (fun q _ h1 h2 => absurd h1 (by omega)), Below.refl _ _⟩
    case round =>
      obtain ⟨k, hk1, hk, rfl, HQ, hbk⟩ := hrel
      by_cases hks : k < s.size
      · obtain ⟨x, hx⟩ : ∃ x : Int, ((s[k]'hks).toNat : Int) = x := ⟨_, rfl⟩
        by_cases hlo : x < 48
        · have HW := Lib.hid (wok_other hf hk1 hks (Or.inl (by omega)))
          go_wp2
          go_ret
          exact ⟨by rw [HW.out]; rfl, hbk⟩
        · by_cases hhi : 57 < x
          · have HW := Lib.hid (wok_other hf hk1 hks (Or.inr (by omega)))
            go_wp2
            go_ret
            exact ⟨by rw [HW.out]; rfl, hbk⟩
          · have HQ2 : Hid (∀ q (hq : q < s.size), 1 ≤ q → q < k + 1 → 48 ≤ (s[q]'hq).toNat ∧ (s[q]'hq).toNat ≤ 57) := by
              intro q hq h1 h2
              by_cases e : q = k
              · subst e; omega
              · exact HQ.out q hq h1 (by omega)
            go_wp2
            refine ⟨⟨k + 1, by omega, by omega, by go_num, HQ2, hbk⟩, ?_⟩
            simp [intOf]
            omega
      · have HF := Lib.hid (wok_full hf hs (by omega) (fun q hq h1 => HQ.out q hq h1 (by omega)))
        obtain ⟨x, hx⟩ : ∃ x : Int, ((s[1]'hs).toNat : Int) = x := ⟨_, rfl⟩
        by_cases h48 : x = 48
        · have HW : Hid (wok s = ((s.size : Int) == 1)) := by
            show _ = _
            rw [HF.out, decide_eq_false (show ¬ _ from fun h => h (by omega)), Bool.false_or, Bool.eq_iff_iff]
            simp only [decide_eq_true_eq, beq_iff_eq]
            omega
          subst h48
          go_wp2
          go_ret
          exact ⟨by rw [HW.out]; rfl, hbk⟩
        · have HW : Hid (wok s = true) := by show _ = _; rw [HF.out, decide_eq_true (by omega)]; simp
          go_wp2
          go_ret
          exact ⟨by rw [HW.out]; rfl, hbk⟩
  · have h6' : ¬ (600 : Int) < (s.size : Int) := by omega
    have h7' : ¬ (s.size : Int) < 1 := by omega
    go_enter Tryz.func148, Tryz.ntmps148
    go_wp2
    go_loopw [5] (fun t wr => ∃ k : Nat, 0 ≤ k ∧ k ≤ s.size ∧ t = .int .i64 (k : Int) ∧ Hid (∀ q (hq : q < s.size), 0 ≤ q → q < k → 48 ≤ (s[q]'hq).toNat ∧ (s[q]'hq).toNat ≤ 57) ∧ Below w.heap.size w wr) (fun t _ => s.size - (intOf t).toNat)
    case atStart => exact ⟨0, Nat.le_refl _, by omega, by go_num, Lib.hid (fun q _ h1 h2 => absurd h1 (by omega)), Below.refl _ _⟩
    case round =>
      obtain ⟨k, hk1, hk, rfl, HQ, hbk⟩ := hrel
      by_cases hks : k < s.size
      · obtain ⟨x, hx⟩ : ∃ x : Int, ((s[k]'hks).toNat : Int) = x := ⟨_, rfl⟩
        by_cases hlo : x < 48
        · have HW := Lib.hid (wok_other hf hk1 hks (Or.inl (by omega)))
          go_wp2
          go_ret
          exact ⟨by rw [HW.out]; rfl, hbk⟩
        · by_cases hhi : 57 < x
          · have HW := Lib.hid (wok_other hf hk1 hks (Or.inr (by omega)))
            go_wp2
            go_ret
            exact ⟨by rw [HW.out]; rfl, hbk⟩
          · have HQ2 : Hid (∀ q (hq : q < s.size), 0 ≤ q → q < k + 1 → 48 ≤ (s[q]'hq).toNat ∧ (s[q]'hq).toNat ≤ 57) := by
              intro q hq h1 h2
              by_cases e : q = k
              · subst e; omega
              · exact HQ.out q hq h1 (by omega)
            go_wp2
            refine ⟨⟨k + 1, by omega, by omega, by go_num, HQ2, hbk⟩, ?_⟩
            simp [intOf]
            omega
      · have HF := Lib.hid (wok_full hf hs (by omega) (fun q hq h1 => HQ.out q hq h1 (by omega)))
        obtain ⟨x, hx⟩ : ∃ x : Int, ((s[0]'hs).toNat : Int) = x := ⟨_, rfl⟩
        by_cases h48 : x = 48
        · have HW : Hid (wok s = ((s.size : Int) == 1)) := by
            show _ = _
            rw [HF.out, decide_eq_false (show ¬ _ from fun h => h (by omega)), Bool.false_or, Bool.eq_iff_iff]
            simp only [decide_eq_true_eq, beq_iff_eq]
            omega
          subst h48
          go_wp2
          go_ret
          exact ⟨by rw [HW.out]; rfl, hbk⟩
        · have HW : Hid (wok s = true) := by show _ = _; rw [HF.out, decide_eq_true (by omega)]; simp
          go_wp2
          go_ret
          exact ⟨by rw [HW.out]; rfl, hbk⟩
theorem right_any (w : World) (s : ByteArray) (hsz : s.size ≤ 1000000) :
    Calls Tryz.prog 148 #[.string s] w fun e w' => e = .returned (.bool (wok s)) ∧ Below w.heap.size w w' := by
  by_cases h0 : s.size = 0
  · have hem : s.data.toList = [] := List.eq_nil_of_length_eq_zero h0
    have HW := Lib.hid (wok_short (s := s) (f := 0) (Or.inr ⟨rfl, by rw [hem]; simp⟩) (Or.inl (by omega)))
    have h0' : (s.size : Int) = 0 := by omega
    go_enter Tryz.func148, Tryz.ntmps148
    go_wp2
    go_ret
    exact ⟨by rw [HW.out]; rfl, Below.refl _ _⟩
  · have hp : 0 < s.size := by omega
    have hb := byte_head hp
    by_cases h45 : (s[0]'hp).toNat = 45
    · have hc : s[0]'hp = 45 := UInt8.toNat_inj.1 (by rw [h45]; rfl)
      rw [hc] at hb
      by_cases h1 : s.size = 1
      · have HW := Lib.hid (wok_short (Or.inl ⟨rfl, hb⟩) (Or.inl (show s.size ≤ 1 by omega)))
        have hp' : (s.size : Int) = 1 := by omega
        clear hb hc h0 h1
        go_enter Tryz.func148, Tryz.ntmps148
        go_wp2
        go_ret
        exact ⟨by rw [HW.out]; rfl, Below.refl _ _⟩
      · exact right_from w s 1 (by omega) hsz (Or.inl ⟨rfl, hb⟩) (Or.inl ⟨rfl, h45⟩)
    · exact right_from w s 0 hp hsz (Or.inr ⟨rfl, by rw [hb]; intro e; injection e with e; exact h45 (by rw [e]; rfl)⟩) (Or.inr ⟨rfl, h45⟩)
end Go.Proofs.YtkajibniibjblaaGreatDoor.P4

namespace Go.Proofs.YtkajibniibjblaaGreatDoor.P4
open Go.RowKit
set_option maxRecDepth 100000

def ReadI (m : Nat) (r : List UInt8) (xs : List Int) : Prop := digs r = true ∧ (dval 0 r : Int) * 10000 ^ xs.length + val xs = m ∧ Dig xs

theorem ReadI.start {u : Nat} : ReadI u (Lib.decDigits u) [] := ⟨digs_decDigits u, by rw [dval_decDigits]; simp [val], Dig.nil⟩
theorem ReadI.done {m : Nat} {xs : List Int} (h : ReadI m [] xs) : val xs = m := by
  have := h.2.1
  have e : dval 0 [] = 0 := rfl
  rw [e] at this
  simpa using this
theorem read_ring (p t G V : Int) (e : Int) (h : (p * 10000 + t) * G + V = e) : p * (G * 10000) + (V + G * t) = e := by grind
theorem ReadI.step {m : Nat} {p t : List UInt8} {xs : List Int} (h : ReadI m (p ++ t) xs) (hl : t.length = 4 ∨ (p = [] ∧ t.length ≤ 4)) : ReadI m p (xs ++ [(dval 0 t : Int)]) ∧ digs t = true ∧ dval 0 t < 10000 := by
  obtain ⟨h1, h2, h3⟩ := h
  obtain ⟨d1, d2⟩ := digs_append h1
  have hlt := dval_lt d2
  have hlt4 : dval 0 t < 10000 := by
    refine Nat.lt_of_lt_of_le hlt (Nat.le_trans (Nat.pow_le_pow_right (by decide) (show t.length ≤ 4 by omega)) (by decide))
  have hv : dval 0 (p ++ t) = dval 0 p * 10000 + dval 0 t := by
    rw [dval_append, dval_acc]
    rcases hl with h | ⟨rfl, _⟩
    · rw [h]
    · show 0 * _ + _ = 0 * _ + _
      rw [Nat.zero_mul, Nat.zero_mul]
  refine ⟨⟨d1, ?_, Dig.append.2 ⟨h3, Dig.cons.2 ⟨by omega, Dig.nil⟩⟩⟩, d2, hlt4⟩
  rw [hv] at h2
  rw [val_append, List.length_append, List.length_singleton, Int.pow_succ]
  have e1 : val [(dval 0 t : Int)] = (dval 0 t : Int) := by simp [val]
  rw [e1]
  refine read_ring _ _ _ _ _ ?_
  rw [← h2]
  simp


theorem seg {l : List UInt8} {f i e : Nat} (h1 : f ≤ i) (h2 : i ≤ e) : (l.drop f).take (e - f) = (l.drop f).take (i - f) ++ (l.drop i).take (e - i) := by
  rw [show e - f = (i - f) + (e - i) by omega, List.take_add, List.drop_drop, show f + (i - f) = i by omega]
theorem take_step {t : List UInt8} {q : Nat} {c : UInt8} (h : t[q]? = some c) (hd : digs t = true) : 48 ≤ c.toNat ∧ c.toNat ≤ 57 ∧ dval 0 (t.take (q + 1)) = dval 0 (t.take q) * 10 + (c.toNat - 48) := by
  have hc := List.all_eq_true.1 hd c (List.mem_of_getElem? h)
  obtain ⟨k, hk, rfl⟩ := dg_eq hc
  have hn : (UInt8.ofNat (48 + k)).toNat = 48 + k := by rw [UInt8.toNat_ofNat']; omega
  rw [hn]
  refine ⟨by omega, by omega, ?_⟩
  rw [List.take_add_one, h]
  show dval 0 (t.take q ++ [UInt8.ofNat (48 + k)]) = _
  rw [dval_snoc _ _ _ hk]
  omega
theorem dval_take {t : List UInt8} {q : Nat} (hd : digs t = true) (hq : q ≤ 4) : dval 0 (t.take q) < 10000 := by
  have h1 : digs (t.take q) = true := List.all_eq_true.2 fun c hc => List.all_eq_true.1 hd c (List.mem_of_mem_take hc)
  have h2 := dval_lt h1
  have h3 : (t.take q).length ≤ 4 := by rw [List.length_take]; omega
  exact Nat.lt_of_lt_of_le h2 (Nat.le_trans (Nat.pow_le_pow_right (by decide) h3) (by decide))
theorem dval_take3 {t : List UInt8} {q : Nat} (hd : digs t = true) (hq : q < 4) : dval 0 (t.take q) < 1000 := by
  have h1 : digs (t.take q) = true := List.all_eq_true.2 fun c hc => List.all_eq_true.1 hd c (List.mem_of_mem_take hc)
  have h2 := dval_lt h1
  have h3 : (t.take q).length ≤ 3 := by rw [List.length_take]; omega
  exact Nat.lt_of_lt_of_le h2 (Nat.le_trans (Nat.pow_le_pow_right (by decide) h3) (by decide))
/-- One group: what stands between i and e. -/
theorem group_at {s : ByteArray} {u f i e : Nat} {cs : List Int} (h : ReadI u ((s.data.toList.drop f).take (e - f)) cs) (h1 : f ≤ i) (h2 : i < e) (he : e ≤ s.size) (h4 : e - i = 4 ∨ (i = f ∧ e - i ≤ 4)) :
    ∃ t : List UInt8, t.length = e - i ∧ digs t = true ∧ (∀ j (hj : j < s.size), i ≤ j → j < e → t[j - i]? = some (s[j]'hj)) ∧ ReadI u ((s.data.toList.drop f).take (i - f)) (cs ++ [(dval 0 t : Int)]) := by
  have hlen : ((s.data.toList.drop i).take (e - i)).length = e - i := by
    rw [List.length_take, List.length_drop]
    have : s.data.toList.length = s.size := rfl
    omega
  rw [seg h1 (Nat.le_of_lt h2)] at h
  obtain ⟨g1, g2, g3⟩ := h.step (by
    rw [hlen]
    rcases h4 with h4 | ⟨rfl, h4⟩
    · exact Or.inl h4
    · exact Or.inr ⟨by simp, h4⟩)
  refine ⟨_, hlen, g2, ?_, g1⟩
  intro j hj hij hje
  rw [List.getElem?_take_of_lt (by omega), List.getElem?_drop, show i + (j - i) = j by omega]
  exact byte_get hj
theorem max_nat {e f : Nat} {e4 : Int} (h : e4 = (e : Int) - 4) : max e4 (f : Int) = ((max (e - 4) f : Nat) : Int) := by omega

/-- RetP, and the digits lie in new memory. -/
def RetPF (w : World) (L : Nat) (z : Int) : Ending → World → Prop := fun e w' =>
  ∃ bl A l c, e = .returned (.agg #[.bool bl, .slice A l c]) ∧ Hid (bl = decide (z < 0)) ∧ Ms w' L A l c z.natAbs ∧ Hid (∀ ad, A = some ad → w.heap.size ≤ ad.block) ∧ Below w.heap.size w w'

set_option maxHeartbeats 2000000 in
theorem in_from (w : World) (s : ByteArray) (z : Int) (u : Nat) (hu : Hid (z.natAbs = u)) (f : Nat) (hI : Hid (ReadI u (s.data.toList.drop f) [])) (hs : f < s.size) (hsz : s.size ≤ 601) (hB : Hid (u ≠ 0 → decide (f = 1) = decide (z < 0)))
    (h0 : f = 1 ∧ (s[0]'(by omega)).toNat = 45 ∨ f = 0 ∧ ¬ (s[0]'(by omega)).toNat = 45) :
    Calls Tryz.prog 77 #[.string s] w (RetPF w 160 z) := by
  have hp : 0 < s.size := by omega
  have hp' : (0 : Int) < (s.size : Int) := by omega
  have hW : Below w.heap.size w (w.alloc (.cells #[.bool false, .slice none 0 0] 102)) := ((Below.refl w.heap.size w).alloc (Nat.le_refl _) _)
  have o1 := heap_last w (.cells #[.bool false, .slice none 0 0] 102)
  have O1 := Lib.hid o1
  clear o1
  have hzz : (w.alloc (.cells #[.bool false, .slice none 0 0] 102)).heap.size = w.heap.size + 1 := by simp
  have HSZ := Lib.hid hzz
  clear hzz
  have ho0 := OwnS.nil (w.alloc (.cells #[.bool false, .slice none 0 0] 102)) .i64 3 (w.heap.size + 1)
  obtain ⟨wB, hwB⟩ : ∃ wB, w.alloc (.cells #[.bool false, .slice none 0 0] 102) = wB := ⟨_, rfl⟩
  have hfl : s.data.toList.drop f = (s.data.toList.drop f).take (((s.size : Int) - (f : Int)).toNat) := by
    rw [List.take_of_length_le]
    rw [List.length_drop]
    have : s.data.toList.length = s.size := rfl
    omega
  have HI0 : Hid (ReadI u ((s.data.toList.drop f).take (((s.size : Int) - (f : Int)).toNat)) []) := by show ReadI _ _ _; rw [← hfl]; exact hI.out
  clear hfl hI
  rcases h0 with ⟨rfl, h0⟩ | ⟨rfl, h0⟩
  · have HBB : Hid (u ≠ 0 → true = decide (z < 0)) := hB.out
    clear hB
    
    go_enter Tryz.func77, Tryz.ntmps77
    go_wp2
    try rw [hwB]
    rw [hwB] at ho0 O1 HSZ hW
    have hsz1 := HSZ.out
    go_loopw [4, 5] (fun dv ev wr => ∃ (k : Nat) (e : Int) (A : Option Addr) (c : Nat) (cs : List Int), dv = .slice A k c ∧ ev = .int .i64 e ∧ OwnS wr .i64 3 wB.heap.size A k c cs ∧ Hid (ReadI u ((s.data.toList.drop 1).take ((e - ((1 : Nat) : Int)).toNat)) cs) ∧ Hid (e + 4 * k = s.size) ∧ (1 : Int) - 4 < e ∧ Below wB.heap.size wB wr) (fun _ ev _ => (intOf ev).toNat)
    case atStart => exact ⟨0, s.size, none, 0, [], rfl, rfl, by rw [hsz1]; exact ho0, HI0, by show _ = _; omega, by omega, Below.refl _ _⟩
    case round =>
      obtain ⟨k, e, A, c, cs, rfl, rfl, hown, HI, HK, he4, hbw⟩ := hrel
      have hk := HK.out
      by_cases hef : (1 : Int) < e
      · obtain ⟨en, rfl⟩ : ∃ en : Nat, e = (en : Int) := ⟨e.toNat, by omega⟩
        obtain ⟨i, hi⟩ : ∃ i : Nat, (max (en - 4) 1 : Nat) = i := ⟨_, rfl⟩
        have hmx : max ((en : Int) - 4) (1 : Int) = (i : Int) := by omega
        have hr := HI.out
        rw [show (((en : Int) - ((1 : Nat) : Int)).toNat) = en - 1 by omega] at hr
        obtain ⟨t, ht, htd, htg, hstep⟩ := group_at hr (i := i) (by omega) (by omega) (by omega) (by omega)
        have HST := Lib.hid hstep
        have HTG := Lib.hid htg
        have HTD := Lib.hid htd
        have HI9 := Lib.hid hi
        have hie : i < en := by omega
        have hen : en ≤ s.size := by omega
        have h4 : en ≤ i + 4 := by omega
        clear hr hstep htg htd hi HI
        obtain ⟨wo, rfl⟩ : ∃ wo : World, wo = wr := ⟨_, rfl⟩
        have hrm := fun w ts t x y => run_max2 w ts t x y
        go_wp2
        go_loopw [6, 7] (fun nv iv wr => ∃ j : Nat, i ≤ j ∧ j ≤ en ∧ nv = .int .i64 ((dval 0 (t.take (j - i)) : Nat) : Int) ∧ iv = .int .i64 (j : Int) ∧ Below wo.heap.size wo wr) (fun _ iv _ => en - (intOf iv).toNat)
        case atStart => exact ⟨i, Nat.le_refl _, by omega, by rw [Nat.sub_self, List.take_zero]; rfl, by go_num, Below.refl _ _⟩
        case round =>
          obtain ⟨j, hij, hje, rfl, rfl, hbo⟩ := hrel
          by_cases hj : j < en
          · have hjs : j < s.size := by omega
            obtain ⟨b1, b2, b3⟩ := take_step (HTG.out j hjs hij hj) HTD.out
            obtain ⟨x, hx⟩ : ∃ x : Int, ((s[j]'hjs).toNat : Int) = x := ⟨_, rfl⟩
            obtain ⟨nn, hnn⟩ : ∃ nn : Nat, dval 0 (t.take (j - i)) = nn := ⟨_, rfl⟩
            have hlt : nn < 1000 := by rw [← hnn]; exact dval_take3 HTD.out (by omega)
            have HNX : Hid (((dval 0 (t.take (j + 1 - i)) : Nat) : Int) = (nn : Int) * 10 + (x - 48)) := by
              show _ = _
              rw [show j + 1 - i = j - i + 1 by omega, b3, hnn]
              omega
            have hx0 : 48 ≤ x := by omega
            have hx1 : x ≤ 57 := by omega
            clear b1 b2 b3
            rw [hnn]
            go_wp2
            refine ⟨⟨j + 1, by omega, by omega, congrArg (Value.int .i64) HNX.out.symm, by go_num, hbo⟩, ?_⟩
            simp [intOf]
            omega
          · obtain rfl : j = en := by omega
            obtain ⟨x, hx⟩ : ∃ x : Nat, dval 0 t = x := ⟨_, rfl⟩
            have hxt : dval 0 (t.take (j - i)) = x := by rw [List.take_of_length_le (by omega), hx]
            have hx1 : x < 10000 := by rw [← hxt]; exact dval_take HTD.out (by omega)
            have HP : Hid (ReadI u ((s.data.toList.drop 1).take (i - 1)) (cs ++ [(x : Int)])) := by show ReadI _ _ _; rw [← hx]; exact HST.out
            rw [hxt]
            have hown0 := hown.after hbo
            have hsrc := int_one wr (x : Int)
            have hwa : Below wr.heap.size wr (wr.alloc (.cells #[.int .i64 (x : Int)] 3)) := (Below.refl _ _).alloc (Nat.le_refl _) _
            have hown1 := hown0.after hwa
            have hbwr := hbw.trans (hbo.mono hbw.size)
            have hsb : wB.heap.size ≤ wr.heap.size := hbwr.size
            clear hown hown0 hx hxt HST HTG HTD
            go_wp2_with (at_builtin; go_must (refine wpList_append rfl _ _ 100 rfl 3 .i64 8 Tryz.underlying100 infoInt wB.heap.size A k c cs rfl hown1 (some ⟨wr.heap.size, 0, none⟩) 1 1 [(x : Int)] rfl hsrc (by omega) (by omega) (by simp; omega) ?_; intro A2 c2 w2 hown2 hbel2 _))
            go_roundw
            case rel =>
              first
                | exact ⟨k + 1, (j : Int) - 4, A2, c2, _, rfl, by go_num, hown2, by show ReadI _ _ _; rw [show (((j : Int) - 4 - ((1 : Nat) : Int)).toNat) = i - 1 by have := HI9.out; omega]; exact HP.out, by show _ = _; have := HK.out; omega, by omega, (hbwr.trans (hwa.mono hbwr.size)).trans hbel2⟩
                | ((repeat apply Exists.intro); exact ⟨⟨k + 1, (j : Int) - 4, A2, c2, _, rfl, by go_num, hown2, by show ReadI _ _ _; rw [show (((j : Int) - 4 - ((1 : Nat) : Int)).toNat) = i - 1 by have := HI9.out; omega]; exact HP.out, by show _ = _; have := HK.out; omega, by omega, (hbwr.trans (hwa.mono hbwr.size)).trans hbel2⟩, rfl⟩)
            case measure => simp [intOf] <;> omega
      · have hr := HI.out
        rw [show ((e - ((1 : Nat) : Int)).toNat) = 0 by omega, List.take_zero] at hr
        have hDs : Ds wr 160 A k c u := ⟨by omega, cs, hown.rd, hr.2.2, hr.done⟩
        have HFR : Hid (∀ ad, A = some ad → w.heap.size ≤ ad.block) := by show ∀ _, _; intro ad e; have h1 := hown.fresh ad e; have h2 := HSZ.out; omega
        clear hr HI hown
        go_wp2_with fail
        refine (made_same _ true _ _ _ u z hDs hu.out HBB.out).mono ?_
        rintro e w9 ⟨b1, l1, rfl, hb1, hA1, -, hbe1⟩
        have hbx := chain hbw hbe1
        have hW1 := chain hW hbx
        have hs := hW1.size
        have y1 := cell_later (j := 0) O1.out hbx
        have y2 := cell_later (j := 1) O1.out hbx
        have g1 := frozen_later O1.out hbx 0
        have g2 := frozen_later O1.out hbx 1
        simp at y1 y2
        have HA := Lib.hid hA1
        have HF := Lib.hid (hA1.off (g := w.heap.size) (blk_later O1.out hbx) (by simp) (by simp))
        clear hA1
        have hs2 := hbx.size
        go_wp2
        refine bodyPost_ret (v := .agg #[.bool b1, .slice A l1 c]) (by simp [results, Tryz.results77, go_sem, y1, y2]) rfl ⟨_, _, _, _, rfl, hb1, (HA.out.setCell HF.out).setCell HF.out, HFR, (hW1.setCell (by simp <;> omega) _).setCell (by simp <;> omega) _⟩
  · have HBB : Hid (u ≠ 0 → false = decide (z < 0)) := hB.out
    clear hB
    have h45 : (((s[0]'hp).toNat : Int) == 45) = false := by rw [beq_eq_false_iff_ne]; omega
    go_enter Tryz.func77, Tryz.ntmps77
    go_wp2
    try rw [hwB]
    rw [hwB] at ho0 O1 HSZ hW
    have hsz1 := HSZ.out
    go_loopw [4, 5] (fun dv ev wr => ∃ (k : Nat) (e : Int) (A : Option Addr) (c : Nat) (cs : List Int), dv = .slice A k c ∧ ev = .int .i64 e ∧ OwnS wr .i64 3 wB.heap.size A k c cs ∧ Hid (ReadI u ((s.data.toList.drop 0).take ((e - ((0 : Nat) : Int)).toNat)) cs) ∧ Hid (e + 4 * k = s.size) ∧ (0 : Int) - 4 < e ∧ Below wB.heap.size wB wr) (fun _ ev _ => (intOf ev).toNat)
    case atStart => exact ⟨0, s.size, none, 0, [], rfl, rfl, by rw [hsz1]; exact ho0, HI0, by show _ = _; omega, by omega, Below.refl _ _⟩
    case round =>
      obtain ⟨k, e, A, c, cs, rfl, rfl, hown, HI, HK, he4, hbw⟩ := hrel
      have hk := HK.out
      by_cases hef : (0 : Int) < e
      · obtain ⟨en, rfl⟩ : ∃ en : Nat, e = (en : Int) := ⟨e.toNat, by omega⟩
        obtain ⟨i, hi⟩ : ∃ i : Nat, (max (en - 4) 0 : Nat) = i := ⟨_, rfl⟩
        have hmx : max ((en : Int) - 4) (0 : Int) = (i : Int) := by omega
        have hr := HI.out
        rw [show (((en : Int) - ((0 : Nat) : Int)).toNat) = en - 0 by omega] at hr
        obtain ⟨t, ht, htd, htg, hstep⟩ := group_at hr (i := i) (by omega) (by omega) (by omega) (by omega)
        have HST := Lib.hid hstep
        have HTG := Lib.hid htg
        have HTD := Lib.hid htd
        have HI9 := Lib.hid hi
        have hie : i < en := by omega
        have hen : en ≤ s.size := by omega
        have h4 : en ≤ i + 4 := by omega
        clear hr hstep htg htd hi HI
        obtain ⟨wo, rfl⟩ : ∃ wo : World, wo = wr := ⟨_, rfl⟩
        have hrm := fun w ts t x y => run_max2 w ts t x y
        go_wp2
        go_loopw [6, 7] (fun nv iv wr => ∃ j : Nat, i ≤ j ∧ j ≤ en ∧ nv = .int .i64 ((dval 0 (t.take (j - i)) : Nat) : Int) ∧ iv = .int .i64 (j : Int) ∧ Below wo.heap.size wo wr) (fun _ iv _ => en - (intOf iv).toNat)
        case atStart => exact ⟨i, Nat.le_refl _, by omega, by rw [Nat.sub_self, List.take_zero]; rfl, by go_num, Below.refl _ _⟩
        case round =>
          obtain ⟨j, hij, hje, rfl, rfl, hbo⟩ := hrel
          by_cases hj : j < en
          · have hjs : j < s.size := by omega
            obtain ⟨b1, b2, b3⟩ := take_step (HTG.out j hjs hij hj) HTD.out
            obtain ⟨x, hx⟩ : ∃ x : Int, ((s[j]'hjs).toNat : Int) = x := ⟨_, rfl⟩
            obtain ⟨nn, hnn⟩ : ∃ nn : Nat, dval 0 (t.take (j - i)) = nn := ⟨_, rfl⟩
            have hlt : nn < 1000 := by rw [← hnn]; exact dval_take3 HTD.out (by omega)
            have HNX : Hid (((dval 0 (t.take (j + 1 - i)) : Nat) : Int) = (nn : Int) * 10 + (x - 48)) := by
              show _ = _
              rw [show j + 1 - i = j - i + 1 by omega, b3, hnn]
              omega
            have hx0 : 48 ≤ x := by omega
            have hx1 : x ≤ 57 := by omega
            clear b1 b2 b3
            rw [hnn]
            go_wp2
            refine ⟨⟨j + 1, by omega, by omega, congrArg (Value.int .i64) HNX.out.symm, by go_num, hbo⟩, ?_⟩
            simp [intOf]
            omega
          · obtain rfl : j = en := by omega
            obtain ⟨x, hx⟩ : ∃ x : Nat, dval 0 t = x := ⟨_, rfl⟩
            have hxt : dval 0 (t.take (j - i)) = x := by rw [List.take_of_length_le (by omega), hx]
            have hx1 : x < 10000 := by rw [← hxt]; exact dval_take HTD.out (by omega)
            have HP : Hid (ReadI u ((s.data.toList.drop 0).take (i - 0)) (cs ++ [(x : Int)])) := by show ReadI _ _ _; rw [← hx]; exact HST.out
            rw [hxt]
            have hown0 := hown.after hbo
            have hsrc := int_one wr (x : Int)
            have hwa : Below wr.heap.size wr (wr.alloc (.cells #[.int .i64 (x : Int)] 3)) := (Below.refl _ _).alloc (Nat.le_refl _) _
            have hown1 := hown0.after hwa
            have hbwr := hbw.trans (hbo.mono hbw.size)
            have hsb : wB.heap.size ≤ wr.heap.size := hbwr.size
            clear hown hown0 hx hxt HST HTG HTD
            go_wp2_with (at_builtin; go_must (refine wpList_append rfl _ _ 100 rfl 3 .i64 8 Tryz.underlying100 infoInt wB.heap.size A k c cs rfl hown1 (some ⟨wr.heap.size, 0, none⟩) 1 1 [(x : Int)] rfl hsrc (by omega) (by omega) (by simp; omega) ?_; intro A2 c2 w2 hown2 hbel2 _))
            go_roundw
            case rel =>
              first
                | exact ⟨k + 1, (j : Int) - 4, A2, c2, _, rfl, by go_num, hown2, by show ReadI _ _ _; rw [show (((j : Int) - 4 - ((0 : Nat) : Int)).toNat) = i - 0 by have := HI9.out; omega]; exact HP.out, by show _ = _; have := HK.out; omega, by omega, (hbwr.trans (hwa.mono hbwr.size)).trans hbel2⟩
                | ((repeat apply Exists.intro); exact ⟨⟨k + 1, (j : Int) - 4, A2, c2, _, rfl, by go_num, hown2, by show ReadI _ _ _; rw [show (((j : Int) - 4 - ((0 : Nat) : Int)).toNat) = i - 0 by have := HI9.out; omega]; exact HP.out, by show _ = _; have := HK.out; omega, by omega, (hbwr.trans (hwa.mono hbwr.size)).trans hbel2⟩, rfl⟩)
            case measure => simp [intOf] <;> omega
      · have hr := HI.out
        rw [show ((e - ((0 : Nat) : Int)).toNat) = 0 by omega, List.take_zero] at hr
        have hDs : Ds wr 160 A k c u := ⟨by omega, cs, hown.rd, hr.2.2, hr.done⟩
        have HFR : Hid (∀ ad, A = some ad → w.heap.size ≤ ad.block) := by show ∀ _, _; intro ad e; have h1 := hown.fresh ad e; have h2 := HSZ.out; omega
        clear hr HI hown
        go_wp2_with fail
        refine (made_same _ false _ _ _ u z hDs hu.out HBB.out).mono ?_
        rintro e w9 ⟨b1, l1, rfl, hb1, hA1, -, hbe1⟩
        have hbx := chain hbw hbe1
        have hW1 := chain hW hbx
        have hs := hW1.size
        have y1 := cell_later (j := 0) O1.out hbx
        have y2 := cell_later (j := 1) O1.out hbx
        have g1 := frozen_later O1.out hbx 0
        have g2 := frozen_later O1.out hbx 1
        simp at y1 y2
        have HA := Lib.hid hA1
        have HF := Lib.hid (hA1.off (g := w.heap.size) (blk_later O1.out hbx) (by simp) (by simp))
        clear hA1
        have hs2 := hbx.size
        go_wp2
        refine bodyPost_ret (v := .agg #[.bool b1, .slice A l1 c]) (by simp [results, Tryz.results77, go_sem, y1, y2]) rfl ⟨_, _, _, _, rfl, hb1, (HA.out.setCell HF.out).setCell HF.out, HFR, (hW1.setCell (by simp <;> omega) _).setCell (by simp <;> omega) _⟩
theorem in_anyF (w : World) (s : ByteArray) (z : Int) (h : VW s z) : Calls Tryz.prog 77 #[.string s] w (RetPF w 160 z) := by
  have hl : s.data.toList = Lib.itoa z := h.text
  have hn6 : Lib.nDigits z.natAbs ≤ 600 := by simpa [fits] using h.fits_
  have hnp := Lib.nDigits_pos z.natAbs
  have hdl := Lib.decDigits_length z.natAbs
  have hlen : s.size = s.data.toList.length := rfl
  by_cases hz : z < 0
  · have hl2 : s.data.toList = 45 :: Lib.decDigits z.natAbs := by rw [hl, itoa_sgn, if_pos hz]; rfl
    have hsz : s.size = Lib.nDigits z.natAbs + 1 := by rw [hlen, hl2, List.length_cons, hdl]
    have h45 : (s[0]'(by omega)).toNat = 45 := by
      have := byte_head (s := s) (by omega)
      rw [hl2] at this
      injection this with this
      rw [← this]; rfl
    exact in_from w s z z.natAbs (Lib.hid rfl) 1 (by show ReadI _ _ _; rw [hl2]; exact ReadI.start) (by omega) (by omega) (Lib.hid fun _ => by simp [hz]) (Or.inl ⟨rfl, h45⟩)
  · have hl2 : s.data.toList = Lib.decDigits z.natAbs := by rw [hl, itoa_sgn, if_neg hz]; rfl
    have hsz : s.size = Lib.nDigits z.natAbs := by rw [hlen, hl2, hdl]
    have h45 : ¬ (s[0]'(by omega)).toNat = 45 := fun e => by
      have h1 := byte_head (s := s) (by omega)
      refine decDigits_head_minus z.natAbs ?_
      rw [← hl2, h1]
      congr 1
      exact UInt8.toNat_inj.1 (by rw [e]; rfl)
    exact in_from w s z z.natAbs (Lib.hid rfl) 0 (by show ReadI _ _ _; rw [hl2]; exact ReadI.start) (by omega) (by omega) (Lib.hid fun _ => by simp [hz]) (Or.inr ⟨rfl, h45⟩)
theorem in_any (w : World) (s : ByteArray) (z : Int) (h : VW s z) : Calls Tryz.prog 77 #[.string s] w (RetP w 160 z) := by
  refine (in_anyF w s z h).mono ?_
  rintro e w' ⟨bl, A, l, c, rfl, h1, h2, -, h3⟩
  exact ⟨_, _, _, _, rfl, h1, h2, h3⟩
end Go.Proofs.YtkajibniibjblaaGreatDoor.P4

namespace Go.Proofs.YtkajibniibjblaaGreatDoor.P4
open Go.RowKit
set_option maxRecDepth 100000

theorem ediv_neg {y : Int} {z : Int} (hy : y < 0) (hz : 0 < z) (hr : y.natAbs % z.natAbs ≠ 0) : -((y.natAbs / z.natAbs : Nat) : Int) - 1 = y / z := by
  obtain ⟨d, rfl⟩ := Int.eq_ofNat_of_zero_le (Int.le_of_lt hz)
  rw [Int.natAbs_natCast] at *
  have hm := Nat.div_add_mod y.natAbs d
  have hlt := Nat.mod_lt y.natAbs (show d > 0 by omega)
  generalize y.natAbs / d = q at *
  generalize y.natAbs % d = r at *
  have hq : ((d * q : Nat) : Int) = d * q := by simp
  have e : y = ((d : Int) - r) + d * (-(q : Int) - 1) := by
    rw [Int.mul_sub, Int.mul_neg]
    omega
  rw [e, Int.add_mul_ediv_left _ _ (by omega), Int.ediv_eq_zero_of_lt (by omega) (by omega)]
  omega
theorem Ms.off_no {w : World} {L : Nat} {A : Option Addr} {l c n g : Nat} {v0 v1 : Value} (h : Ms w L A l c n) (k0 : w.cell? ⟨g, 0, none⟩ = some v0) (k1 : w.cell? ⟨g, 1, none⟩ = some v1) (kn : ∀ o, 2 ≤ o → w.cell? ⟨g, o, none⟩ = none) (h0 : ∀ d, v0 ≠ .int .i64 d) (h1 : ∀ d, v1 ≠ .int .i64 d) : ∀ ad, A = some ad → 0 < l → ad.block ≠ g := by
  intro ad e hl hbl
  obtain ⟨_, xs, hx, _⟩ := h
  obtain ⟨b, off, d, e', _, _, hc⟩ := hx.get hl
  rw [e] at e'
  injection e' with e'
  subst e'
  simp only at hbl
  subst hbl
  rw [Nat.add_zero] at hc
  match off with
  | 0 => rw [k0] at hc; injection hc with hc; exact h0 d hc
  | 1 => rw [k1] at hc; injection hc with hc; exact h1 d hc
  | (o + 2) => rw [kn _ (by omega)] at hc; cases hc
theorem neg_sign {q : Nat} {x : Int} (h : x = -(q : Int)) (hq : q ≠ 0) : true = decide (x < 0) := by
  rw [eq_comm, decide_eq_true_iff]; omega
set_option maxHeartbeats 4000000 in
theorem pparts_neg (w : World) {L : Nat} (A : Option Addr) (n c : Nat) (y : Int) (ha : Ms w L A n c y.natAbs) (B : Option Addr) (m d : Nat) (z : Int) (hb : Ms w L B m d z.natAbs) (hy : y < 0) (hz : 0 < z) (hr : y.natAbs % z.natAbs ≠ 0) (hL : L ≤ 1000000) :
    Calls Tryz.prog 129 #[.agg #[.bool true, .slice A n c], .agg #[.bool false, .slice B m d]] w fun e w' => ∃ b1 A1 l1 c1 b2 A2 l2 c2, e = .returned (.tuple #[.agg #[.bool b1, .slice A1 l1 c1], .agg #[.bool b2, .slice A2 l2 c2]]) ∧ Hid (b1 = decide (y / z < 0)) ∧ Ms w' (max L 5 + 1) A1 l1 c1 (y / z).natAbs ∧ Below w.heap.size w w' := by
  obtain ⟨X, hX⟩ : ∃ X : Int, X = -((y.natAbs / z.natAbs : Nat) : Int) := ⟨_, rfl⟩
  obtain ⟨R, hR⟩ : ∃ R : Int, R = -((y.natAbs % z.natAbs : Nat) : Int) := ⟨_, rfl⟩
  have HQ1 : Hid (X.natAbs = y.natAbs / z.natAbs) := by show _ = _; rw [hX, Int.natAbs_neg, Int.natAbs_natCast]
  have HQ2 : Hid (y.natAbs / z.natAbs ≠ 0 → true = decide (X < 0)) := neg_sign hX
  have HR1 : Hid (R.natAbs = y.natAbs % z.natAbs) := by show _ = _; rw [hR, Int.natAbs_neg, Int.natAbs_natCast]
  have HR2 : Hid (y.natAbs % z.natAbs ≠ 0 → true = decide (R < 0)) := neg_sign hR
  have hz0 : 0 < z.natAbs := by omega
  have HRR := Lib.hid hr
  have HXD : Hid (X - 1 = y / z) := by show _ = _; rw [hX]; exact ediv_neg hy hz hr
  have hW : Below w.heap.size w ((((w.alloc (.cells #[.bool true, .slice A n c] 102)).alloc (.cells #[.bool false, .slice B m d] 102)).alloc (.cells #[.bool false, .slice none 0 0] 102)).alloc (.cells #[.bool false, .slice none 0 0] 102)) := (((((Below.refl w.heap.size w).alloc (Nat.le_refl _) _).alloc (by simp <;> omega) _).alloc (by simp <;> omega) _).alloc (by simp <;> omega) _)
  have o1 := heap_more (heap_more (heap_more (heap_last w (.cells #[.bool true, .slice A n c] 102)) (.cells #[.bool false, .slice B m d] 102)) (.cells #[.bool false, .slice none 0 0] 102)) (.cells #[.bool false, .slice none 0 0] 102)
  have O1 := Lib.hid o1
  clear o1
  have o2 := heap_more (heap_more (heap_last (w.alloc (.cells #[.bool true, .slice A n c] 102)) (.cells #[.bool false, .slice B m d] 102)) (.cells #[.bool false, .slice none 0 0] 102)) (.cells #[.bool false, .slice none 0 0] 102)
  rw [show (w.alloc (.cells #[.bool true, .slice A n c] 102)).heap.size = w.heap.size + 1 by simp] at o2
  have O2 := Lib.hid o2
  clear o2
  have o3 := heap_more (heap_last ((w.alloc (.cells #[.bool true, .slice A n c] 102)).alloc (.cells #[.bool false, .slice B m d] 102)) (.cells #[.bool false, .slice none 0 0] 102)) (.cells #[.bool false, .slice none 0 0] 102)
  rw [show ((w.alloc (.cells #[.bool true, .slice A n c] 102)).alloc (.cells #[.bool false, .slice B m d] 102)).heap.size = w.heap.size + 1 + 1 by simp] at o3
  have O3 := Lib.hid o3
  clear o3
  have o4 := heap_last (((w.alloc (.cells #[.bool true, .slice A n c] 102)).alloc (.cells #[.bool false, .slice B m d] 102)).alloc (.cells #[.bool false, .slice none 0 0] 102)) (.cells #[.bool false, .slice none 0 0] 102)
  rw [show (((w.alloc (.cells #[.bool true, .slice A n c] 102)).alloc (.cells #[.bool false, .slice B m d] 102)).alloc (.cells #[.bool false, .slice none 0 0] 102)).heap.size = w.heap.size + 1 + 1 + 1 by simp] at o4
  have O4 := Lib.hid o4
  clear o4
  have hsz : ((((w.alloc (.cells #[.bool true, .slice A n c] 102)).alloc (.cells #[.bool false, .slice B m d] 102)).alloc (.cells #[.bool false, .slice none 0 0] 102)).alloc (.cells #[.bool false, .slice none 0 0] 102)).heap.size = w.heap.size + 1 + 1 + 1 + 1 := by simp
  have HSZ := Lib.hid hsz
  clear hsz
  have HS : Hid (∀ w', Below ((((w.alloc (.cells #[.bool true, .slice A n c] 102)).alloc (.cells #[.bool false, .slice B m d] 102)).alloc (.cells #[.bool false, .slice none 0 0] 102)).alloc (.cells #[.bool false, .slice none 0 0] 102)).heap.size ((((w.alloc (.cells #[.bool true, .slice A n c] 102)).alloc (.cells #[.bool false, .slice B m d] 102)).alloc (.cells #[.bool false, .slice none 0 0] 102)).alloc (.cells #[.bool false, .slice none 0 0] 102)) w' → w'.cell? ⟨w.heap.size, 0, none⟩ = some (.bool true) ∧ w'.cell? ⟨w.heap.size, 1, none⟩ = some (.slice A n c) ∧ w'.cell? ⟨w.heap.size + 1, 0, none⟩ = some (.bool false) ∧ w'.cell? ⟨w.heap.size + 1, 1, none⟩ = some (.slice B m d)) := fun w' h => ⟨cell_later O1.out h, cell_later O1.out h, cell_later O2.out h, cell_later O2.out h⟩
  have ha1 := ha.below hW
  have hb1 := hb.below hW
  go_enter Tryz.func129, Tryz.ntmps129
  go_wp2_with (first | (go_quiet (fail)) | fail)
  refine (parts_any _ _ _ _ _ _ _ _ _ ha1 hb1 hz0 (by omega)).mono ?_
  rintro e w1 ⟨A1, l1, c1, A2, l2, c2, rfl, hq, hr', hb0⟩
  have HQO := Lib.hid hq.old
  have HRO := Lib.hid hr'.old
  have HS1 : Hid (∀ w', Below w1.heap.size w1 w' → w'.cell? ⟨w.heap.size, 0, none⟩ = some (.bool true) ∧ w'.cell? ⟨w.heap.size, 1, none⟩ = some (.slice A n c) ∧ w'.cell? ⟨w.heap.size + 1, 0, none⟩ = some (.bool false) ∧ w'.cell? ⟨w.heap.size + 1, 1, none⟩ = some (.slice B m d)) := fun w' h => HS.out w' (chain hb0 h)
  have HQM := Lib.hid hq
  have HRM := Lib.hid hr'
  have hW1 := chain hW hb0
  have HB1 := Lib.hid (hb1.below hb0)
  clear hq hr' HS hr ha hb ha1 hX hR
  go_upto_region 2 with fail
  go_cut [8, 9] (fun px py wx => ∃ gx gy b3 l3 b4 l4, px = .pointer (some ⟨gx, 0, none⟩) ∧ py = .pointer (some ⟨gy, 0, none⟩) ∧ w1.heap.size ≤ gx ∧ w1.heap.size ≤ gy ∧ gx ≠ gy ∧ l3 ≤ l1 ∧ (∀ o, 2 ≤ o → wx.cell? ⟨gx, o, none⟩ = none) ∧ wx.cell? ⟨gx, 0, none⟩ = some (.bool b3) ∧ wx.cell? ⟨gx, 1, none⟩ = some (.slice A1 l3 c1) ∧ wx.cell? ⟨gy, 0, none⟩ = some (.bool b4) ∧ wx.cell? ⟨gy, 1, none⟩ = some (.slice A2 l4 c2) ∧ wx.frozen? ⟨gx, 0, none⟩ = false ∧ wx.frozen? ⟨gx, 1, none⟩ = false ∧ wx.frozen? ⟨gy, 0, none⟩ = false ∧ wx.frozen? ⟨gy, 1, none⟩ = false ∧ Hid (b3 = decide (X < 0)) ∧ Hid (b4 = true) ∧ Ms wx L A1 l3 c1 X.natAbs ∧ Ms wx L A2 l4 c2 R.natAbs ∧ Below w1.heap.size w1 wx)
  case first =>
    go_region_held3 (fun w' => w'.cell? ⟨w.heap.size, 0, none⟩ = some (.bool true) ∧ w'.cell? ⟨w.heap.size, 1, none⟩ = some (.slice A n c) ∧ w'.cell? ⟨w.heap.size + 1, 0, none⟩ = some (.bool false) ∧ w'.cell? ⟨w.heap.size + 1, 1, none⟩ = some (.slice B m d))
      ((refine HS1.out _ ?_; repeat (first | with_reducible exact Below.refl _ _ | with_reducible exact hd1 | with_reducible exact hd2 | (with_reducible refine Below.setCell ?_ (by first | omega | (simp <;> omega)) _) | (with_reducible refine Below.alloc ?_ (by first | omega | (simp <;> omega)) _) | with_reducible refine Below.drew ?_)))
      (first
        | (go_at_call 122; (fail_if_success (have hq := hM1)); (refine (made_same (L := L) _ true A1 l1 c1 (y.natAbs / z.natAbs) X ?hx1 HQ1.out HQ2.out).mono ?_); (case hx1 => refine (HQM.out.below ?_).ds; repeat (first | with_reducible exact Below.refl _ _ | with_reducible exact hd1 | with_reducible exact hd2 | (with_reducible refine Below.setCell ?_ (by first | omega | (simp <;> omega)) _) | (with_reducible refine Below.alloc ?_ (by first | omega | (simp <;> omega)) _) | with_reducible refine Below.drew ?_)); rintro e v1 ⟨b3, l3, rfl, hB1, hM1, hln1, hb1'⟩; have hcl1 := (bcell hb1').1; have hfr1 := (bcell hb1').2; have hs1 := hb1'.size; (try simp at hs1); (try have ht1 : w1.heap.size < v1.heap.size := by omega); (try have ht2 : w1.heap.size + 1 < v1.heap.size := by omega); have hd1 : Below w1.heap.size w1 v1 := (by refine Below.trans ?_ (hb1'.mono (by first | omega | (simp <;> omega))); repeat (first | with_reducible exact Below.refl _ _ | with_reducible exact hd1 | with_reducible exact hd2 | (with_reducible refine Below.setCell ?_ (by first | omega | (simp <;> omega)) _) | (with_reducible refine Below.alloc ?_ (by first | omega | (simp <;> omega)) _) | with_reducible refine Below.drew ?_)))
        | (go_at_call 122; (refine (made_same (L := L) _ true A2 l2 c2 (y.natAbs % z.natAbs) R ?hx2 HR1.out HR2.out).mono ?_); (case hx2 => refine (HRM.out.below ?_).ds; repeat (first | with_reducible exact Below.refl _ _ | with_reducible exact hd1 | with_reducible exact hd2 | (with_reducible refine Below.setCell ?_ (by first | omega | (simp <;> omega)) _) | (with_reducible refine Below.alloc ?_ (by first | omega | (simp <;> omega)) _) | with_reducible refine Below.drew ?_)); rintro e v2 ⟨b4, l4, rfl, hB2, hM2, hln2, hb2'⟩; have hcl2 := (bcell hb2').1; have hfr2 := (bcell hb2').2; have hs2 := hb2'.size; (try simp at hs2); (try have hu1 : v1.heap.size < v2.heap.size := by omega); (try have hu2 : v1.heap.size + 1 < v2.heap.size := by omega); (try have hu3 : w1.heap.size < v2.heap.size := by omega); (try have hu4 : w1.heap.size + 1 < v2.heap.size := by omega); (try have hu5 : w1.heap.size < v1.heap.size + 1 := by omega); have hd2 : Below w1.heap.size w1 v2 := (by refine Below.trans ?_ (hb2'.mono (by first | omega | (simp <;> omega))); repeat (first | with_reducible exact Below.refl _ _ | with_reducible exact hd1 | with_reducible exact hd2 | (with_reducible refine Below.setCell ?_ (by first | omega | (simp <;> omega)) _) | (with_reducible refine Below.alloc ?_ (by first | omega | (simp <;> omega)) _) | with_reducible refine Below.drew ?_))))
    all_goals (
      go_wp2_with fail
      go_meet
      refine ⟨_, _, b3, l3, b4, l4, rfl, rfl, ?_, ?_, ?_, ?_, ?_, ?_, ?_, ?_, ?_, ?_, ?_, ?_, ?_, hB1, ?_, ?_, ?_, ?_⟩
      · first | omega | (simp <;> omega)
      · first | omega | (simp <;> omega)
      · first | omega | (simp <;> omega)
      · omega
      · intro o ho
        go_simp
      · first | (go_simp; done) | (go_simp; refine World.cell?_setCell_same (u := .bool false) _ _ _ ?_; go_simp; done) | (go_simp; refine (World.cell?_setCell_other _ _ _ _ (by simp <;> omega)).trans ?_; go_simp; done)
      · first | (go_simp; done) | (go_simp; refine World.cell?_setCell_same (u := .slice none 0 0) _ _ _ ?_; go_simp; done) | (go_simp; refine (World.cell?_setCell_other _ _ _ _ (by simp <;> omega)).trans ?_; go_simp; done)
      · first | (go_simp; done) | (go_simp; refine World.cell?_setCell_same (u := .bool false) _ _ _ ?_; go_simp; done) | (go_simp; refine (World.cell?_setCell_other _ _ _ _ (by simp <;> omega)).trans ?_; go_simp; done)
      · first | (go_simp; done) | (go_simp; refine World.cell?_setCell_same (u := .slice none 0 0) _ _ _ ?_; go_simp; done) | (go_simp; refine (World.cell?_setCell_other _ _ _ _ (by simp <;> omega)).trans ?_; go_simp; done)
      · go_simp
      · go_simp
      · go_simp
      · go_simp
      · show b4 = true; rw [hB2.out]; exact (HR2.out HRR.out).symm
      · repeat (first | with_reducible exact hM1 | (with_reducible refine Ms.setCell ?_ (fun ad e hl => by have h1 := HQO.out ad e (by omega); first | omega | (simp <;> omega))) | (with_reducible refine Ms.below ?_ ((Below.refl _ _).alloc (Nat.le_refl _) _)) | (with_reducible refine Ms.below ?_ hb2') | (with_reducible refine Ms.below ?_ ((Below.refl _ _).drew)))
      · repeat (first | with_reducible exact hM2 | (with_reducible refine Ms.setCell ?_ (fun ad e hl => by have h1 := HRO.out ad e (by omega); first | omega | (simp <;> omega))) | (with_reducible refine Ms.below ?_ ((Below.refl _ _).alloc (Nat.le_refl _) _)) | (with_reducible refine Ms.below ?_ hb2') | (with_reducible refine Ms.below ?_ ((Below.refl _ _).drew)))
      · repeat (first | with_reducible exact Below.refl _ _ | with_reducible exact hd1 | with_reducible exact hd2 | (with_reducible refine Below.setCell ?_ (by first | omega | (simp <;> omega)) _) | (with_reducible refine Below.alloc ?_ (by first | omega | (simp <;> omega)) _) | with_reducible refine Below.drew ?_))
  case rest =>
    obtain ⟨gx, gy, b3, l3, b4, l4, rfl, rfl, hgx, hgy, hne, hl31, hno, c0, c1', c2', c3, q0, q1, q2, q3, hB3, hB4, hM3, hM4, hbc⟩ := hcut
    have e4 := hB4.out
    subst e4
    have hbx := chain hb0 hbc
    have hW2 := chain hW hbx
    have hs := hW2.size
    have hs2 := hbx.size
    simp at hs2
    have y1 := cell_later (j := 0) O3.out hbx
    have y2 := cell_later (j := 1) O3.out hbx
    have y3 := cell_later (j := 0) O4.out hbx
    have y4 := cell_later (j := 1) O4.out hbx
    have g1 := frozen_later O3.out hbx 0
    have g2 := frozen_later O3.out hbx 1
    have g3 := frozen_later O4.out hbx 0
    have g4 := frozen_later O4.out hbx 1
    simp at y1 y2 y3 y4
    have HF1 := Lib.hid (hM3.off (g := w.heap.size + 1 + 1) (blk_later O3.out hbx) (by simp) (by simp))
    have HF2 := Lib.hid (hM3.off (g := w.heap.size + 1 + 1 + 1) (blk_later O4.out hbx) (by simp) (by simp))
    have HG1 := Lib.hid (hM4.off (g := w.heap.size + 1 + 1) (blk_later O3.out hbx) (by simp) (by simp))
    have HG2 := Lib.hid (hM4.off (g := w.heap.size + 1 + 1 + 1) (blk_later O4.out hbx) (by simp) (by simp))
    have HM3 := Lib.hid hM3
    have HM4 := Lib.hid hM4
    clear hM3 hM4
    have hs1 := hb0.size
    simp at hs1
    have hgx' : w.heap.size + 3 < gx := by omega
    have hgy' : w.heap.size + 3 < gy := by omega
    have d0 : wc.drew.cell? ⟨gx, 0, none⟩ = some (.bool b3) := c0
    have d1 : wc.drew.cell? ⟨gx, 1, none⟩ = some (.slice A1 l3 c1) := c1'
    have d2 : wc.drew.cell? ⟨gy, 0, none⟩ = some (.bool true) := c2'
    have d3 : wc.drew.cell? ⟨gy, 1, none⟩ = some (.slice A2 l4 c2) := c3
    have u0 := (HS1.out _ hbc).2.2.1
    have u1 := (HS1.out _ hbc).2.2.2
    have HBR : Hid (true = decide (R < 0)) := HR2.out HRR.out
    have HBZ : Hid (false = decide (z < 0)) := by show _ = _; simp; omega
    go_wp2_with fail
    refine (pplus_any _ true A2 l4 c2 R HBR HM4.out false B m d z HBZ (HB1.out.below hbc) (by omega) (by omega)).mono ?_
    rintro e w2 ⟨b5, A5, l5, c5, rfl, hb5, hA5, hb2⟩
    have lx := World.block_lt_of_cell? _ _ c0
    have ly := World.block_lt_of_cell? _ _ c2'
    have e0 := (hb2.cell (p := ⟨gx, 0, none⟩) lx).trans c0
    have e1 := (hb2.cell (p := ⟨gx, 1, none⟩) lx).trans c1'
    have e2 := (hb2.cell (p := ⟨gy, 0, none⟩) ly).trans c2'
    have e3 := (hb2.cell (p := ⟨gy, 1, none⟩) ly).trans c3
    have v0 := (HS1.out _ (hbc.trans (hb2.mono hbc.size))).2.2.1
    clear u0 u1 d0 d1 d2 d3 c0 c1' c2' c3
    have q0 := ((bcell hb2).2 gx 0 lx).trans q0
    have q1 := ((bcell hb2).2 gx 1 lx).trans q1
    have q2 := ((bcell hb2).2 gy 0 ly).trans q2
    have q3 := ((bcell hb2).2 gy 1 ly).trans q3
    have hA5' := hA5
    go_wp2_with fail
    obtain ⟨w3, hw3⟩ : ∃ x, (w2.setCell ⟨gy, 0, none⟩ (.bool b5)).setCell ⟨gy, 1, none⟩ (.slice A5 l5 c5) = x := ⟨_, rfl⟩
    have hz2 := hb2.size
    have hk3 : Below w1.heap.size w2 w3 := by rw [← hw3]; exact ((Below.refl _ _).setCell (by simp <;> omega) _).setCell (by simp <;> omega) _
    have hk13 : Below w1.heap.size w1 w3 := (hbc.trans (hb2.mono hbc.size)).trans hk3
    have p0 : w3.cell? ⟨gx, 0, none⟩ = some (.bool b3) := by rw [← hw3]; exact (World.cell?_setCell_other _ _ _ _ (by simp <;> omega)).trans ((World.cell?_setCell_other _ _ _ _ (by simp <;> omega)).trans e0)
    have p1 : w3.cell? ⟨gx, 1, none⟩ = some (.slice A1 l3 c1) := by rw [← hw3]; exact (World.cell?_setCell_other _ _ _ _ (by simp <;> omega)).trans ((World.cell?_setCell_other _ _ _ _ (by simp <;> omega)).trans e1)
    have p2 : w3.cell? ⟨gy, 0, none⟩ = some (.bool b5) := by rw [← hw3]; exact (World.cell?_setCell_other _ _ _ _ (by simp <;> omega)).trans (World.cell?_setCell_same _ _ _ e2)
    have p3 : w3.cell? ⟨gy, 1, none⟩ = some (.slice A5 l5 c5) := by rw [← hw3]; exact World.cell?_setCell_same (u := .slice A2 l4 c2) _ _ _ ((World.cell?_setCell_other _ _ _ _ (by simp <;> omega)).trans e3)
    have p4 : w3.frozen? ⟨gx, 0, none⟩ = false := by rw [← hw3]; simpa using q0
    have p5 : w3.frozen? ⟨gx, 1, none⟩ = false := by rw [← hw3]; simpa using q1
    have HX3 : Hid (Ms w3 L A1 l3 c1 X.natAbs) := by
      show Ms _ _ _ _ _ _
      rw [← hw3]
      exact ((HM3.out.below hb2).setCell (fun ad e h => by have := HQO.out ad e (by omega); omega)).setCell (fun ad e h => by have := HQO.out ad e (by omega); omega)
    have hlx3 : gx < w3.heap.size := World.block_lt_of_cell? _ _ p0
    have hly3 : gy < w3.heap.size := World.block_lt_of_cell? _ _ p2
    rw [hw3]
    clear e0 e1 e2 e3 q0 q1 q2 q3
    have hd3 : Below w3.heap.size w3 w3.drew := (Below.refl _ _).drew
    have HSx : Hid (∀ w', Below w3.heap.size w3 w' → w'.cell? ⟨gx, 0, none⟩ = some (.bool b3) ∧ w'.cell? ⟨gx, 1, none⟩ = some (.slice A1 l3 c1)) := fun w' h => ⟨(h.cell (p := ⟨gx, 0, none⟩) hlx3).trans p0, (h.cell (p := ⟨gx, 1, none⟩) hlx3).trans p1⟩
    go_wp2_with fail
    have hbx2 := chain hbx hb2
    have hbx3 : Below ((((w.alloc (.cells #[.bool true, .slice A n c] 102)).alloc (.cells #[.bool false, .slice B m d] 102)).alloc (.cells #[.bool false, .slice none 0 0] 102)).alloc (.cells #[.bool false, .slice none 0 0] 102)).heap.size ((((w.alloc (.cells #[.bool true, .slice A n c] 102)).alloc (.cells #[.bool false, .slice B m d] 102)).alloc (.cells #[.bool false, .slice none 0 0] 102)).alloc (.cells #[.bool false, .slice none 0 0] 102)) w3 := by rw [← hw3]; exact (hbx2.setCell (by simp <;> omega) _).setCell (by simp <;> omega) _
    have hno3 : ∀ o, 2 ≤ o → w3.cell? ⟨gx, o, none⟩ = none := fun o ho => by
      rw [← hw3]
      exact (World.cell?_setCell_other _ _ _ _ (by simp <;> omega)).trans ((World.cell?_setCell_other _ _ _ _ (by simp <;> omega)).trans ((hb2.cell (p := ⟨gx, o, none⟩) lx).trans (hno o ho)))
    clear hno
    go_region_with (first
        | (go_at_call 79; (refine (integer_any _ 1 (by decide) (by decide)).mono ?_); rintro e x1 ⟨b6, A6, l6, c6, rfl, hb6, hA6, hx6⟩; have hd4 := chain hd3 hx6; have e0 := (hd4.cell (p := ⟨gx, 0, none⟩) hlx3).trans p0; have e1 := (hd4.cell (p := ⟨gx, 1, none⟩) hlx3).trans p1)
        | (go_at_call 164; (refine (pminus_any _ b3 A1 l3 c1 X hB3 (HX3.out.below hd4) b6 A6 l6 c6 1 hb6 hA6 (by omega) (by omega)).mono ?_); rintro e x2 ⟨b7, A7, l7, c7, rfl, hb7, hA7, hx7⟩; have hd5 := chain hd4 hx7; have e2 := (hd5.cell (p := ⟨gx, 0, none⟩) hlx3).trans p0; have e3 := (hd5.cell (p := ⟨gx, 1, none⟩) hlx3).trans p1; have p6 := ((bcell hd5).2 gx 0 hlx3).trans p4; have p7 := ((bcell hd5).2 gx 1 hlx3).trans p5))
    all_goals (
      have hbx4 := chain hbx3 hd5
      have HOF := Lib.hid (hA7.off_no e2 e3 (fun o ho => (hd5.cell (p := ⟨gx, o, none⟩) hlx3).trans (hno3 o ho)) (by simp) (by simp))
      obtain ⟨w5, hw5⟩ : ∃ x, (x2.setCell ⟨gx, 0, none⟩ (.bool b7)).setCell ⟨gx, 1, none⟩ (.slice A7 l7 c7) = x := ⟨_, rfl⟩
      have hbx5 : Below ((((w.alloc (.cells #[.bool true, .slice A n c] 102)).alloc (.cells #[.bool false, .slice B m d] 102)).alloc (.cells #[.bool false, .slice none 0 0] 102)).alloc (.cells #[.bool false, .slice none 0 0] 102)).heap.size ((((w.alloc (.cells #[.bool true, .slice A n c] 102)).alloc (.cells #[.bool false, .slice B m d] 102)).alloc (.cells #[.bool false, .slice none 0 0] 102)).alloc (.cells #[.bool false, .slice none 0 0] 102)) w5 := by rw [← hw5]; exact (hbx4.setCell (by simp <;> omega) _).setCell (by simp <;> omega) _
      have r0 : w5.cell? ⟨gx, 0, none⟩ = some (.bool b7) := by rw [← hw5]; exact (World.cell?_setCell_other _ _ _ _ (by simp <;> omega)).trans (World.cell?_setCell_same _ _ _ e2)
      have r1 : w5.cell? ⟨gx, 1, none⟩ = some (.slice A7 l7 c7) := by rw [← hw5]; exact World.cell?_setCell_same (u := .slice A1 l3 c1) _ _ _ ((World.cell?_setCell_other _ _ _ _ (by simp <;> omega)).trans e3)
      have r2 : w5.cell? ⟨gy, 0, none⟩ = some (.bool b5) := by rw [← hw5]; exact (World.cell?_setCell_other _ _ _ _ (by simp <;> omega)).trans ((World.cell?_setCell_other _ _ _ _ (by simp <;> omega)).trans ((hd5.cell (p := ⟨gy, 0, none⟩) hly3).trans p2))
      have r3 : w5.cell? ⟨gy, 1, none⟩ = some (.slice A5 l5 c5) := by rw [← hw5]; exact (World.cell?_setCell_other _ _ _ _ (by simp <;> omega)).trans ((World.cell?_setCell_other _ _ _ _ (by simp <;> omega)).trans ((hd5.cell (p := ⟨gy, 1, none⟩) hly3).trans p3))
      have hA9 : Ms w5 (max L 5 + 1) A7 l7 c7 (y / z).natAbs := by rw [← hw5, ← HXD.out]; exact (hA7.setCell HOF.out).setCell HOF.out
      rw [hw5]
      clear e0 e1 e2 e3 p0 p1 p2 p3 p4 p5 p6 p7 hA7 hbx4 hno3
      have hW5 := chain hW hbx5
      have y1 := cell_later (j := 0) O3.out hbx5
      have y2 := cell_later (j := 1) O3.out hbx5
      have y3 := cell_later (j := 0) O4.out hbx5
      have y4 := cell_later (j := 1) O4.out hbx5
      have g1 := frozen_later O3.out hbx5 0
      have g2 := frozen_later O3.out hbx5 1
      have g3 := frozen_later O4.out hbx5 0
      have g4 := frozen_later O4.out hbx5 1
      simp at y1 y2 y3 y4
      have HF7 := Lib.hid (hA9.off (g := w.heap.size + 1 + 1) (blk_later O3.out hbx5) (by simp) (by simp))
      have HF8 := Lib.hid (hA9.off (g := w.heap.size + 1 + 1 + 1) (blk_later O4.out hbx5) (by simp) (by simp))
      have HN7 := Lib.hid hA9
      have hs5 := hbx5.size
      simp at hs5
      clear hA9
      have d0 : w5.drew.cell? ⟨gx, 0, none⟩ = some (.bool b7) := r0
      have d1 : w5.drew.cell? ⟨gx, 1, none⟩ = some (.slice A7 l7 c7) := r1
      have d2 : w5.drew.cell? ⟨gy, 0, none⟩ = some (.bool b5) := r2
      have d3 : w5.drew.cell? ⟨gy, 1, none⟩ = some (.slice A5 l5 c5) := r3
      go_wp2_with fail
      go_region_held3 (fun w' => w'.cell? ⟨gx, 0, none⟩ = some (.bool b7) ∧ w'.cell? ⟨gx, 1, none⟩ = some (.slice A7 l7 c7) ∧ w'.cell? ⟨gy, 0, none⟩ = some (.bool b5) ∧ w'.cell? ⟨gy, 1, none⟩ = some (.slice A5 l5 c5))
        (first | exact ⟨d0, d1, d2, d3⟩ | exact ⟨(World.cell?_setCell_other _ _ _ _ (by simp <;> omega)).trans ((World.cell?_setCell_other _ _ _ _ (by simp <;> omega)).trans (d0)), (World.cell?_setCell_other _ _ _ _ (by simp <;> omega)).trans ((World.cell?_setCell_other _ _ _ _ (by simp <;> omega)).trans (d1)), (World.cell?_setCell_other _ _ _ _ (by simp <;> omega)).trans ((World.cell?_setCell_other _ _ _ _ (by simp <;> omega)).trans (d2)), (World.cell?_setCell_other _ _ _ _ (by simp <;> omega)).trans ((World.cell?_setCell_other _ _ _ _ (by simp <;> omega)).trans (d3))⟩ | exact ⟨(World.cell?_setCell_other _ _ _ _ (by simp <;> omega)).trans ((World.cell?_setCell_other _ _ _ _ (by simp <;> omega)).trans ((World.cell?_setCell_other _ _ _ _ (by simp <;> omega)).trans ((World.cell?_setCell_other _ _ _ _ (by simp <;> omega)).trans (d0)))), (World.cell?_setCell_other _ _ _ _ (by simp <;> omega)).trans ((World.cell?_setCell_other _ _ _ _ (by simp <;> omega)).trans ((World.cell?_setCell_other _ _ _ _ (by simp <;> omega)).trans ((World.cell?_setCell_other _ _ _ _ (by simp <;> omega)).trans (d1)))), (World.cell?_setCell_other _ _ _ _ (by simp <;> omega)).trans ((World.cell?_setCell_other _ _ _ _ (by simp <;> omega)).trans ((World.cell?_setCell_other _ _ _ _ (by simp <;> omega)).trans ((World.cell?_setCell_other _ _ _ _ (by simp <;> omega)).trans (d2)))), (World.cell?_setCell_other _ _ _ _ (by simp <;> omega)).trans ((World.cell?_setCell_other _ _ _ _ (by simp <;> omega)).trans ((World.cell?_setCell_other _ _ _ _ (by simp <;> omega)).trans ((World.cell?_setCell_other _ _ _ _ (by simp <;> omega)).trans (d3))))⟩)
        (fail)
      all_goals (
        go_wp2
        refine bodyPost_ret (v := .tuple #[.agg #[.bool b7, .slice A7 l7 c7], .agg #[.bool b5, .slice A5 l5 c5]]) (by simp [results, Tryz.results129, go_sem, y1, y2, y3, y4]) rfl ⟨_, _, _, _, _, _, _, _, rfl, (by rw [← HXD.out]; exact hb7), ?_, ?_⟩
        · repeat (first | with_reducible exact HN7.out | with_reducible refine Ms.setCell ?_ HF7.out | with_reducible refine Ms.setCell ?_ HF8.out | with_reducible refine Ms.below ?_ ((Below.refl _ _).drew))
        · repeat (first | with_reducible exact hW5 | (with_reducible refine Below.setCell ?_ (by simp <;> omega) _) | with_reducible refine Below.drew ?_)))
end Go.Proofs.YtkajibniibjblaaGreatDoor.P4

namespace Go.Proofs.YtkajibniibjblaaGreatDoor.P4
open Go.RowKit
set_option maxRecDepth 100000

set_option maxHeartbeats 1000000 in
theorem rin_any (w : World) (N D : ByteArray) (q : Rat) (h : VQ N D q) :
    Calls Tryz.prog 93 #[.agg #[.string N, .string D]] w (RetR w 160 q) := by
  have hW : Below w.heap.size w ((w.alloc (.cells #[.string N, .string D] 51)).alloc (.cells #[.bool false, .slice none 0 0, .bool false, .slice none 0 0] 108)) := (((Below.refl w.heap.size w).alloc (Nat.le_refl _) _).alloc (by simp <;> omega) _)
  have o1 := heap_more (heap_last w (.cells #[.string N, .string D] 51)) (.cells #[.bool false, .slice none 0 0, .bool false, .slice none 0 0] 108)
  have O1 := Lib.hid o1
  clear o1
  have o2 := heap_last (w.alloc (.cells #[.string N, .string D] 51)) (.cells #[.bool false, .slice none 0 0, .bool false, .slice none 0 0] 108)
  rw [show (w.alloc (.cells #[.string N, .string D] 51)).heap.size = w.heap.size + 1 by simp] at o2
  have O2 := Lib.hid o2
  clear o2
  have hsz : ((w.alloc (.cells #[.string N, .string D] 51)).alloc (.cells #[.bool false, .slice none 0 0, .bool false, .slice none 0 0] 108)).heap.size = w.heap.size + 1 + 1 := by simp
  have HSZ := Lib.hid hsz
  clear hsz
  obtain ⟨wB, hwB⟩ : ∃ x, ((w.alloc (.cells #[.string N, .string D] 51)).alloc (.cells #[.bool false, .slice none 0 0, .bool false, .slice none 0 0] 108)) = x := ⟨_, rfl⟩
  rw [hwB] at hW HSZ O1 O2
  have hLE : w.heap.size + 1 ≤ wB.heap.size := by rw [HSZ.out]; omega
  have HS : Hid (∀ w', Below (w.heap.size + 1) wB w' → w'.cell? ⟨w.heap.size, 0, none⟩ = some (.string N) ∧ w'.cell? ⟨w.heap.size, 1, none⟩ = some (.string D)) := fun w' h => ⟨cell_at (j := 0) O1.out (by omega) h, cell_at (j := 1) O1.out (by omega) h⟩
  go_enter Tryz.func93, Tryz.ntmps93
  go_wp2_with fail
  try rw [hwB]
  have hd0 : Below wB.heap.size wB wB.drew := (Below.refl _ _).drew
  go_region_held3 (fun w' => w'.cell? ⟨w.heap.size, 0, none⟩ = some (.string N) ∧ w'.cell? ⟨w.heap.size, 1, none⟩ = some (.string D))
    ((refine HS.out _ ?_; repeat (first | with_reducible exact Below.mono hd0 hLE | with_reducible exact Below.mono hd1 hLE | with_reducible exact Below.mono hd2 hLE | (with_reducible refine Below.setCell ?_ (by first | omega | (simp <;> omega)) _) | (with_reducible refine Below.alloc ?_ (by first | omega | (simp <;> omega)) _) | with_reducible exact Below.refl _ _ | with_reducible refine Below.drew ?_)))
    (first
      | (go_at_call 77; (fail_if_success (have hq := hd1)); (refine (in_any _ N q.num h.num).mono ?_); rintro e w1 ⟨b1, A1, l1, c1, rfl, hb1, hA1, hx1⟩; have hd1 := chain hd0 hx1)
      | (go_at_call 77; (refine (in_any _ D (q.den : Int) h.den).mono ?_); rintro e w2 ⟨b2, A2, l2, c2, rfl, hb2, hA2, hx2⟩; have hd2 := chain hd1 hx2; have r0 := cell_later (j := 0) O2.out hd2; have r1 := cell_later (j := 1) O2.out hd2; have r2 := cell_later (j := 2) O2.out hd2; have r3 := cell_later (j := 3) O2.out hd2; have rf0 := frozen_later O2.out hd2 0; have rf1 := frozen_later O2.out hd2 1; have rf2 := frozen_later O2.out hd2 2; have rf3 := frozen_later O2.out hd2 3; simp at r0 r1 r2 r3))
  obtain rfl : b2 = false := by rw [hb2.out]; simp
  have HN := Lib.hid (hA1.below hx2)
  rw [Int.natAbs_natCast] at hA2
  have HD := Lib.hid hA2
  have hWE := chain hW hd2
  have hbs := hWE.size
  have HNF := Lib.hid (HN.out.offc (g := w.heap.size + 1) (blk_later O2.out hd2) (by intro j v h d e; subst e; rcases j with _ | _ | _ | _ | j <;> simp at h))
  have HDF := Lib.hid (HD.out.offc (g := w.heap.size + 1) (blk_later O2.out hd2) (by intro j v h d e; subst e; rcases j with _ | _ | _ | _ | j <;> simp at h))
  go_wp2
  refine bodyPost_ret (v := .agg #[.bool b1, .slice A1 l1 c1, .bool false, .slice A2 l2 c2]) (by simp [results, Tryz.results93, go_sem]; go_simp) rfl ⟨_, _, _, _, _, _, _, rfl, hb1, ?_, ?_, ?_⟩
  · repeat (first | with_reducible exact HN.out | with_reducible refine Ms.setCell ?_ HNF.out)
  · repeat (first | with_reducible exact HD.out | with_reducible refine Ms.setCell ?_ HDF.out)
  · repeat (first | with_reducible exact hWE | (with_reducible refine Below.setCell ?_ (by first | omega | (simp <;> omega)) _) | (with_reducible refine Below.alloc ?_ (by first | omega | (simp <;> omega)) _))

set_option maxHeartbeats 1000000 in
theorem rturn_any (w : World) {L : Nat} (bl : Bool) (A : Option Addr) (n c : Nat) (B : Option Addr) (m d : Nat) (q : Rat) (hbl : Hid (bl = decide (q.num < 0))) (ha : Ms w L A n c q.num.natAbs) (hb : Ms w L B m d q.den) :
    Calls Tryz.prog 153 #[.agg #[.bool bl, .slice A n c, .bool false, .slice B m d]] w (RetR w L (-q)) := by
  have hW : Below w.heap.size w ((w.alloc (.cells #[.bool bl, .slice A n c, .bool false, .slice B m d] 108)).alloc (.cells #[.bool false, .slice none 0 0, .bool false, .slice none 0 0] 108)) := (((Below.refl w.heap.size w).alloc (Nat.le_refl _) _).alloc (by simp <;> omega) _)
  have o1 := heap_more (heap_last w (.cells #[.bool bl, .slice A n c, .bool false, .slice B m d] 108)) (.cells #[.bool false, .slice none 0 0, .bool false, .slice none 0 0] 108)
  have O1 := Lib.hid o1
  clear o1
  have o2 := heap_last (w.alloc (.cells #[.bool bl, .slice A n c, .bool false, .slice B m d] 108)) (.cells #[.bool false, .slice none 0 0, .bool false, .slice none 0 0] 108)
  rw [show (w.alloc (.cells #[.bool bl, .slice A n c, .bool false, .slice B m d] 108)).heap.size = w.heap.size + 1 by simp] at o2
  have O2 := Lib.hid o2
  clear o2
  have hsz : ((w.alloc (.cells #[.bool bl, .slice A n c, .bool false, .slice B m d] 108)).alloc (.cells #[.bool false, .slice none 0 0, .bool false, .slice none 0 0] 108)).heap.size = w.heap.size + 1 + 1 := by simp
  have HSZ := Lib.hid hsz
  clear hsz
  obtain ⟨wB, hwB⟩ : ∃ x, ((w.alloc (.cells #[.bool bl, .slice A n c, .bool false, .slice B m d] 108)).alloc (.cells #[.bool false, .slice none 0 0, .bool false, .slice none 0 0] 108)) = x := ⟨_, rfl⟩
  rw [hwB] at hW HSZ O1 O2
  have ha1 := ha.below hW
  have hb1 := hb.below hW
  skip
  have hLE : w.heap.size + 1 ≤ wB.heap.size := by rw [HSZ.out]; omega
  have HS : Hid (∀ w', Below (w.heap.size + 1) wB w' → w'.cell? ⟨w.heap.size, 0, none⟩ = some (.bool bl) ∧ w'.cell? ⟨w.heap.size, 1, none⟩ = some (.slice A n c) ∧ w'.cell? ⟨w.heap.size, 2, none⟩ = some (.bool false) ∧ w'.cell? ⟨w.heap.size, 3, none⟩ = some (.slice B m d)) := fun w' h => ⟨cell_at (j := 0) O1.out (by omega) h, cell_at (j := 1) O1.out (by omega) h, cell_at (j := 2) O1.out (by omega) h, cell_at (j := 3) O1.out (by omega) h⟩
  go_enter Tryz.func153, Tryz.ntmps153
  go_wp2_with fail
  try rw [hwB]
  have hd0 : Below wB.heap.size wB wB.drew := (Below.refl _ _).drew
  go_region_held3 (fun w' => w'.cell? ⟨w.heap.size, 0, none⟩ = some (.bool bl) ∧ w'.cell? ⟨w.heap.size, 1, none⟩ = some (.slice A n c) ∧ w'.cell? ⟨w.heap.size, 2, none⟩ = some (.bool false) ∧ w'.cell? ⟨w.heap.size, 3, none⟩ = some (.slice B m d))
    ((refine HS.out _ ?_; repeat (first | with_reducible exact Below.mono hd0 hLE | with_reducible exact Below.mono hd1 hLE | (with_reducible refine Below.setCell ?_ (by first | omega | (simp <;> omega)) _) | (with_reducible refine Below.alloc ?_ (by first | omega | (simp <;> omega)) _) | with_reducible exact Below.refl _ _ | with_reducible refine Below.drew ?_)))
    (first
      | (go_at_call 127; (refine (turn_any _ bl A n c q.num hbl (ha1.below hd0)).mono ?_); rintro e w1 ⟨b1, A1, l1, c1, rfl, hb1', hA1, hx1⟩; have hd1 := chain hd0 hx1; have r0 := cell_later (j := 0) O2.out hd1; have r1 := cell_later (j := 1) O2.out hd1; have r2 := cell_later (j := 2) O2.out hd1; have r3 := cell_later (j := 3) O2.out hd1; have rf0 := frozen_later O2.out hd1 0; have rf1 := frozen_later O2.out hd1 1; have rf2 := frozen_later O2.out hd1 2; have rf3 := frozen_later O2.out hd1 3; simp at r0 r1 r2 r3))
  have HN : Hid (Ms w1 L A1 l1 c1 (-q).num.natAbs) := by show Ms _ _ _ _ _ _; rw [Rat.neg_num]; exact hA1
  have HD : Hid (Ms w1 L B m d (-q).den) := by show Ms _ _ _ _ _ _; rw [Rat.neg_den]; exact hb1.below hd1
  have HSG : Hid (b1 = decide ((-q).num < 0)) := by show _ = _; rw [Rat.neg_num]; exact hb1'.out
  clear ha hb ha1 hb1 hA1
  all_goals (
    have hWE := chain hW hd1
    have hbs := hWE.size
    have HNF := Lib.hid (HN.out.offc (g := w.heap.size + 1) (blk_later O2.out hd1) (by intro j v h d e; subst e; rcases j with _ | _ | _ | _ | j <;> simp at h))
    have HDF := Lib.hid (HD.out.offc (g := w.heap.size + 1) (blk_later O2.out hd1) (by intro j v h d e; subst e; rcases j with _ | _ | _ | _ | j <;> simp at h))
    go_wp2
    refine bodyPost_ret (v := .agg #[.bool b1, .slice A1 l1 c1, .bool false, .slice B m d]) (by simp [results, Tryz.results153, go_sem]; go_simp) rfl ⟨_, _, _, _, _, _, _, rfl, HSG, ?_, ?_, ?_⟩
    · repeat (first | with_reducible exact HN.out | with_reducible refine Ms.setCell ?_ HNF.out)
    · repeat (first | with_reducible exact HD.out | with_reducible refine Ms.setCell ?_ HDF.out)
    · repeat (first | with_reducible exact hWE | (with_reducible refine Below.setCell ?_ (by first | omega | (simp <;> omega)) _) | (with_reducible refine Below.alloc ?_ (by first | omega | (simp <;> omega)) _)))

set_option maxHeartbeats 2000000 in
theorem rtimes_any (w : World) {La Lb : Nat} (bl : Bool) (A : Option Addr) (n c : Nat) (B : Option Addr) (m d : Nat) (q : Rat) (hbl : Hid (bl = decide (q.num < 0))) (ha : Ms w La A n c q.num.natAbs) (hb : Ms w La B m d q.den)
    (bm : Bool) (E : Option Addr) (k f : Nat) (G : Option Addr) (i g : Nat) (r : Rat) (hbm : Hid (bm = decide (r.num < 0))) (he : Ms w Lb E k f r.num.natAbs) (hg : Ms w Lb G i g r.den) (hL : La ≤ 1000000) (hL' : Lb ≤ 1000000) :
    Calls Tryz.prog 152 #[.agg #[.bool bl, .slice A n c, .bool false, .slice B m d], .agg #[.bool bm, .slice E k f, .bool false, .slice G i g]] w (RetR w (La + Lb) (q * r)) := by
  have hW : Below w.heap.size w (((w.alloc (.cells #[.bool bl, .slice A n c, .bool false, .slice B m d] 108)).alloc (.cells #[.bool bm, .slice E k f, .bool false, .slice G i g] 108)).alloc (.cells #[.bool false, .slice none 0 0, .bool false, .slice none 0 0] 108)) := ((((Below.refl w.heap.size w).alloc (Nat.le_refl _) _).alloc (by simp <;> omega) _).alloc (by simp <;> omega) _)
  have o1 := heap_more (heap_more (heap_last w (.cells #[.bool bl, .slice A n c, .bool false, .slice B m d] 108)) (.cells #[.bool bm, .slice E k f, .bool false, .slice G i g] 108)) (.cells #[.bool false, .slice none 0 0, .bool false, .slice none 0 0] 108)
  have O1 := Lib.hid o1
  clear o1
  have o2 := heap_more (heap_last (w.alloc (.cells #[.bool bl, .slice A n c, .bool false, .slice B m d] 108)) (.cells #[.bool bm, .slice E k f, .bool false, .slice G i g] 108)) (.cells #[.bool false, .slice none 0 0, .bool false, .slice none 0 0] 108)
  rw [show (w.alloc (.cells #[.bool bl, .slice A n c, .bool false, .slice B m d] 108)).heap.size = w.heap.size + 1 by simp] at o2
  have O2 := Lib.hid o2
  clear o2
  have o3 := heap_last ((w.alloc (.cells #[.bool bl, .slice A n c, .bool false, .slice B m d] 108)).alloc (.cells #[.bool bm, .slice E k f, .bool false, .slice G i g] 108)) (.cells #[.bool false, .slice none 0 0, .bool false, .slice none 0 0] 108)
  rw [show ((w.alloc (.cells #[.bool bl, .slice A n c, .bool false, .slice B m d] 108)).alloc (.cells #[.bool bm, .slice E k f, .bool false, .slice G i g] 108)).heap.size = w.heap.size + 1 + 1 by simp] at o3
  have O3 := Lib.hid o3
  clear o3
  have hsz : (((w.alloc (.cells #[.bool bl, .slice A n c, .bool false, .slice B m d] 108)).alloc (.cells #[.bool bm, .slice E k f, .bool false, .slice G i g] 108)).alloc (.cells #[.bool false, .slice none 0 0, .bool false, .slice none 0 0] 108)).heap.size = w.heap.size + 1 + 1 + 1 := by simp
  have HSZ := Lib.hid hsz
  clear hsz
  obtain ⟨wB, hwB⟩ : ∃ x, (((w.alloc (.cells #[.bool bl, .slice A n c, .bool false, .slice B m d] 108)).alloc (.cells #[.bool bm, .slice E k f, .bool false, .slice G i g] 108)).alloc (.cells #[.bool false, .slice none 0 0, .bool false, .slice none 0 0] 108)) = x := ⟨_, rfl⟩
  rw [hwB] at hW HSZ O1 O2 O3
  have ha1 := Lib.hid (ha.below hW)
  have hb1 := Lib.hid (hb.below hW)
  have he1 := Lib.hid (he.below hW)
  have hg1 := Lib.hid (hg.below hW)
  have HQ : Hid (mkRat (q.num * r.num) (q.den * r.den) = q * r) := rat_mul q r
  have hz : Hid ((0 : Nat) < q.den * r.den) := Nat.mul_pos q.den_pos r.den_pos
  have HF1 : Hid (false = decide ((q.den : Int) < 0)) := by show _ = _; simp
  have HF2 : Hid (false = decide ((r.den : Int) < 0)) := by show _ = _; simp
  have HC : Hid (((q.den : Int) * (r.den : Int)).natAbs = q.den * r.den) := by show _ = _; rw [Int.natAbs_mul, Int.natAbs_natCast, Int.natAbs_natCast]
  clear ha hb he hg
  have hLE : w.heap.size + 1 + 1 ≤ wB.heap.size := by rw [HSZ.out]; omega
  have HS : Hid (∀ w', Below (w.heap.size + 1 + 1) wB w' → w'.cell? ⟨w.heap.size, 0, none⟩ = some (.bool bl) ∧ w'.cell? ⟨w.heap.size, 1, none⟩ = some (.slice A n c) ∧ w'.cell? ⟨w.heap.size, 2, none⟩ = some (.bool false) ∧ w'.cell? ⟨w.heap.size, 3, none⟩ = some (.slice B m d) ∧ w'.cell? ⟨w.heap.size + 1, 0, none⟩ = some (.bool bm) ∧ w'.cell? ⟨w.heap.size + 1, 1, none⟩ = some (.slice E k f) ∧ w'.cell? ⟨w.heap.size + 1, 2, none⟩ = some (.bool false) ∧ w'.cell? ⟨w.heap.size + 1, 3, none⟩ = some (.slice G i g)) := fun w' h => ⟨cell_at (j := 0) O1.out (by omega) h, cell_at (j := 1) O1.out (by omega) h, cell_at (j := 2) O1.out (by omega) h, cell_at (j := 3) O1.out (by omega) h, cell_at (j := 0) O2.out (by omega) h, cell_at (j := 1) O2.out (by omega) h, cell_at (j := 2) O2.out (by omega) h, cell_at (j := 3) O2.out (by omega) h⟩
  go_enter Tryz.func152, Tryz.ntmps152
  go_wp2_with fail
  try rw [hwB]
  have hd0 : Below wB.heap.size wB wB.drew := (Below.refl _ _).drew
  go_region_held3 (fun w' => w'.cell? ⟨w.heap.size, 0, none⟩ = some (.bool bl) ∧ w'.cell? ⟨w.heap.size, 1, none⟩ = some (.slice A n c) ∧ w'.cell? ⟨w.heap.size, 2, none⟩ = some (.bool false) ∧ w'.cell? ⟨w.heap.size, 3, none⟩ = some (.slice B m d) ∧ w'.cell? ⟨w.heap.size + 1, 0, none⟩ = some (.bool bm) ∧ w'.cell? ⟨w.heap.size + 1, 1, none⟩ = some (.slice E k f) ∧ w'.cell? ⟨w.heap.size + 1, 2, none⟩ = some (.bool false) ∧ w'.cell? ⟨w.heap.size + 1, 3, none⟩ = some (.slice G i g))
    ((refine HS.out _ ?_; repeat (first | with_reducible exact Below.mono hd0 hLE | with_reducible exact Below.mono hd1 hLE | with_reducible exact Below.mono hd2 hLE | with_reducible exact Below.mono hd3 hLE | (with_reducible refine Below.setCell ?_ (by first | omega | (simp <;> omega)) _) | (with_reducible refine Below.alloc ?_ (by first | omega | (simp <;> omega)) _) | with_reducible exact Below.refl _ _ | with_reducible refine Below.drew ?_)))
    (first
      | (go_at_call 124; (fail_if_success (have hq := hd1)); (refine (ptimes_any _ bl A n c q.num hbl (ha1.out.below hd0) bm E k f r.num hbm (he1.out.below hd0) (by omega) (by omega)).mono ?_); rintro e w1 ⟨b1, A1, l1, c1, rfl, hs1, hA1, hx1⟩; have hd1 := chain hd0 hx1)
      | (go_at_call 124; (refine (ptimes_any _ false B m d (q.den : Int) HF1 (hb1.out.below hd1) false G i g (r.den : Int) HF2 (hg1.out.below hd1) (by omega) (by omega)).mono ?_); rintro e w2 ⟨b2, A2, l2, c2, rfl, hs2, hA2, hx2⟩; have hd2 := chain hd1 hx2; obtain rfl : b2 = false := (by rw [hs2.out]; simp; exact Int.mul_nonneg (by omega) (by omega)); rw [HC.out] at hA2)
      | (go_at_call 81; (refine (rlowest_any _ b1 A1 l1 c1 (q.num * r.num) hs1 (hA1.below hx2) A2 l2 c2 (q.den * r.den) hA2 hz.out (by omega)).mono ?_); rintro e w3 ⟨b3, A3, l3, c3, B3, m3, d3, rfl, hs3, hA3, hB3, hx3⟩; have hd3 := chain hd2 hx3; have r0 := cell_later (j := 0) O3.out hd3; have r1 := cell_later (j := 1) O3.out hd3; have r2 := cell_later (j := 2) O3.out hd3; have r3 := cell_later (j := 3) O3.out hd3; have rf0 := frozen_later O3.out hd3 0; have rf1 := frozen_later O3.out hd3 1; have rf2 := frozen_later O3.out hd3 2; have rf3 := frozen_later O3.out hd3 3; simp at r0 r1 r2 r3))
  rw [HQ.out] at hs3 hA3 hB3
  have HN := Lib.hid hA3
  have HD := Lib.hid hB3
  clear hA1 hA2 hA3 hB3
  have hWE := chain hW hd3
  have hbs := hWE.size
  have HNF := Lib.hid (HN.out.offc (g := w.heap.size + 1 + 1) (blk_later O3.out hd3) (by intro j v h d e; subst e; rcases j with _ | _ | _ | _ | j <;> simp at h))
  have HDF := Lib.hid (HD.out.offc (g := w.heap.size + 1 + 1) (blk_later O3.out hd3) (by intro j v h d e; subst e; rcases j with _ | _ | _ | _ | j <;> simp at h))
  go_wp2
  refine bodyPost_ret (v := .agg #[.bool b3, .slice A3 l3 c3, .bool false, .slice B3 m3 d3]) (by simp [results, Tryz.results152, go_sem]; go_simp) rfl ⟨_, _, _, _, _, _, _, rfl, hs3, ?_, ?_, ?_⟩
  · repeat (first | with_reducible exact HN.out | with_reducible refine Ms.setCell ?_ HNF.out)
  · repeat (first | with_reducible exact HD.out | with_reducible refine Ms.setCell ?_ HDF.out)
  · repeat (first | with_reducible exact hWE | (with_reducible refine Below.setCell ?_ (by first | omega | (simp <;> omega)) _) | (with_reducible refine Below.alloc ?_ (by first | omega | (simp <;> omega)) _))

set_option maxHeartbeats 2000000 in
theorem rorder_any (w : World) {La Lb : Nat} (bl : Bool) (A : Option Addr) (n c : Nat) (B : Option Addr) (m d : Nat) (q : Rat) (hbl : Hid (bl = decide (q.num < 0))) (ha : Ms w La A n c q.num.natAbs) (hb : Ms w La B m d q.den)
    (bm : Bool) (E : Option Addr) (k f : Nat) (G : Option Addr) (i g : Nat) (r : Rat) (hbm : Hid (bm = decide (r.num < 0))) (he : Ms w Lb E k f r.num.natAbs) (hg : Ms w Lb G i g r.den) (hL : La ≤ 1000000) (hL' : Lb ≤ 1000000) :
    Calls Tryz.prog 97 #[.agg #[.bool bl, .slice A n c, .bool false, .slice B m d], .agg #[.bool bm, .slice E k f, .bool false, .slice G i g]] w fun e w' => e = .returned (.int .i64 (q.num * r.den - r.num * q.den).sign) ∧ Below w.heap.size w w' := by
  have hW : Below w.heap.size w ((w.alloc (.cells #[.bool bl, .slice A n c, .bool false, .slice B m d] 108)).alloc (.cells #[.bool bm, .slice E k f, .bool false, .slice G i g] 108)) := (((Below.refl w.heap.size w).alloc (Nat.le_refl _) _).alloc (by simp <;> omega) _)
  have o1 := heap_more (heap_last w (.cells #[.bool bl, .slice A n c, .bool false, .slice B m d] 108)) (.cells #[.bool bm, .slice E k f, .bool false, .slice G i g] 108)
  have O1 := Lib.hid o1
  clear o1
  have o2 := heap_last (w.alloc (.cells #[.bool bl, .slice A n c, .bool false, .slice B m d] 108)) (.cells #[.bool bm, .slice E k f, .bool false, .slice G i g] 108)
  rw [show (w.alloc (.cells #[.bool bl, .slice A n c, .bool false, .slice B m d] 108)).heap.size = w.heap.size + 1 by simp] at o2
  have O2 := Lib.hid o2
  clear o2
  have hsz : ((w.alloc (.cells #[.bool bl, .slice A n c, .bool false, .slice B m d] 108)).alloc (.cells #[.bool bm, .slice E k f, .bool false, .slice G i g] 108)).heap.size = w.heap.size + 1 + 1 := by simp
  have HSZ := Lib.hid hsz
  clear hsz
  obtain ⟨wB, hwB⟩ : ∃ x, ((w.alloc (.cells #[.bool bl, .slice A n c, .bool false, .slice B m d] 108)).alloc (.cells #[.bool bm, .slice E k f, .bool false, .slice G i g] 108)) = x := ⟨_, rfl⟩
  rw [hwB] at hW HSZ O1 O2
  have ha1 := Lib.hid (ha.below hW)
  have hb1 := Lib.hid (hb.below hW)
  have he1 := Lib.hid (he.below hW)
  have hg1 := Lib.hid (hg.below hW)
  have HF1 : Hid (false = decide ((q.den : Int) < 0)) := by show _ = _; simp
  have HF2 : Hid (false = decide ((r.den : Int) < 0)) := by show _ = _; simp
  clear ha hb he hg
  have hLE : w.heap.size + 1 + 1 ≤ wB.heap.size := by rw [HSZ.out]; omega
  have HS : Hid (∀ w', Below (w.heap.size + 1 + 1) wB w' → w'.cell? ⟨w.heap.size, 0, none⟩ = some (.bool bl) ∧ w'.cell? ⟨w.heap.size, 1, none⟩ = some (.slice A n c) ∧ w'.cell? ⟨w.heap.size, 2, none⟩ = some (.bool false) ∧ w'.cell? ⟨w.heap.size, 3, none⟩ = some (.slice B m d) ∧ w'.cell? ⟨w.heap.size + 1, 0, none⟩ = some (.bool bm) ∧ w'.cell? ⟨w.heap.size + 1, 1, none⟩ = some (.slice E k f) ∧ w'.cell? ⟨w.heap.size + 1, 2, none⟩ = some (.bool false) ∧ w'.cell? ⟨w.heap.size + 1, 3, none⟩ = some (.slice G i g)) := fun w' h => ⟨cell_at (j := 0) O1.out (by omega) h, cell_at (j := 1) O1.out (by omega) h, cell_at (j := 2) O1.out (by omega) h, cell_at (j := 3) O1.out (by omega) h, cell_at (j := 0) O2.out (by omega) h, cell_at (j := 1) O2.out (by omega) h, cell_at (j := 2) O2.out (by omega) h, cell_at (j := 3) O2.out (by omega) h⟩
  go_enter Tryz.func97, Tryz.ntmps97
  go_wp2_with fail
  try rw [hwB]
  have hd0 : Below wB.heap.size wB wB.drew := (Below.refl _ _).drew
  go_region_held3 (fun w' => w'.cell? ⟨w.heap.size, 0, none⟩ = some (.bool bl) ∧ w'.cell? ⟨w.heap.size, 1, none⟩ = some (.slice A n c) ∧ w'.cell? ⟨w.heap.size, 2, none⟩ = some (.bool false) ∧ w'.cell? ⟨w.heap.size, 3, none⟩ = some (.slice B m d) ∧ w'.cell? ⟨w.heap.size + 1, 0, none⟩ = some (.bool bm) ∧ w'.cell? ⟨w.heap.size + 1, 1, none⟩ = some (.slice E k f) ∧ w'.cell? ⟨w.heap.size + 1, 2, none⟩ = some (.bool false) ∧ w'.cell? ⟨w.heap.size + 1, 3, none⟩ = some (.slice G i g))
    ((refine HS.out _ ?_; repeat (first | with_reducible exact Below.mono hd0 hLE | with_reducible exact Below.mono hd1 hLE | with_reducible exact Below.mono hd2 hLE | with_reducible exact Below.mono hd3 hLE | (with_reducible refine Below.setCell ?_ (by first | omega | (simp <;> omega)) _) | (with_reducible refine Below.alloc ?_ (by first | omega | (simp <;> omega)) _) | with_reducible exact Below.refl _ _ | with_reducible refine Below.drew ?_)))
    (first
      | (go_at_call 124; (fail_if_success (have hq := hd1)); (refine (ptimes_any _ bl A n c q.num hbl (ha1.out.below hd0) false G i g (r.den : Int) HF2 (hg1.out.below hd0) (by omega) (by omega)).mono ?_); rintro e w1 ⟨b1, A1, l1, c1, rfl, hs1, hA1, hx1⟩; have hd1 := chain hd0 hx1)
      | (go_at_call 124; (refine (ptimes_any _ bm E k f r.num hbm (he1.out.below hd1) false B m d (q.den : Int) HF1 (hb1.out.below hd1) (by omega) (by omega)).mono ?_); rintro e w2 ⟨b2, A2, l2, c2, rfl, hs2, hA2, hx2⟩; have hd2 := chain hd1 hx2)
      | (go_at_call 154; (refine (porder_any _ b1 A1 l1 c1 (q.num * r.den) hs1 (hA1.below hx2) b2 A2 l2 c2 (r.num * q.den) hs2 hA2 (by omega) (by omega)).mono ?_); rintro e w3 ⟨rfl, hx3⟩; have hd3 := chain hd2 hx3))
  go_wp2
  go_ret
  exact ⟨rfl, chain hW hd3⟩

end Go.Proofs.YtkajibniibjblaaGreatDoor.P4

namespace Go.Proofs.YtkajibniibjblaaGreatDoor.P4
open Go.RowKit
set_option maxRecDepth 100000

theorem pparts_floor (w : World) {L : Nat} (bl : Bool) (A : Option Addr) (n c : Nat) (y : Int) (hbl : Hid (bl = decide (y < 0))) (ha : Ms w L A n c y.natAbs) (B : Option Addr) (m d : Nat) (z : Nat) (hb : Ms w L B m d z) (hz : 0 < z) (hL : L ≤ 1000000) :
    Calls Tryz.prog 129 #[.agg #[.bool bl, .slice A n c], .agg #[.bool false, .slice B m d]] w fun e w' => ∃ b1 A1 l1 c1 b2 A2 l2 c2, e = .returned (.tuple #[.agg #[.bool b1, .slice A1 l1 c1], .agg #[.bool b2, .slice A2 l2 c2]]) ∧ Hid (b1 = decide (y / z < 0)) ∧ Ms w' (max L 5 + 1) A1 l1 c1 (y / z).natAbs ∧ Below w.heap.size w w' := by
  have hb' : Ms w L B m d ((z : Int)).natAbs := by rw [Int.natAbs_natCast]; exact hb
  by_cases h : 0 ≤ y ∨ y.natAbs % ((z : Int)).natAbs = 0
  · refine (pparts_any w bl A n c y hbl ha false B m d (z : Int) (show false = _ by simp) hb' (by omega) h (by omega)).mono ?_
    rintro e w' ⟨b1, A1, l1, c1, b2, A2, l2, c2, rfl, h1, h2, -, -, h3⟩
    exact ⟨_, _, _, _, _, _, _, _, rfl, h1, h2.mono (by omega), h3⟩
  · have hy : y < 0 := by omega
    obtain rfl : bl = true := by rw [hbl.out]; simp [hy]
    exact pparts_neg w A n c y ha B m d (z : Int) hb' hy (by omega) (fun e => h (Or.inr e)) hL

set_option maxHeartbeats 1000000 in
theorem rdown_any (w : World) {L : Nat} (bl : Bool) (A : Option Addr) (n c : Nat) (B : Option Addr) (m d : Nat) (q : Rat) (hbl : Hid (bl = decide (q.num < 0))) (ha : Ms w L A n c q.num.natAbs) (hb : Ms w L B m d q.den) (hL : L ≤ 1000000) :
    Calls Tryz.prog 151 #[.agg #[.bool bl, .slice A n c, .bool false, .slice B m d]] w (RetP w (max L 5 + 1) (q.num / q.den)) := by
  have hW : Below w.heap.size w ((w.alloc (.cells #[.bool bl, .slice A n c, .bool false, .slice B m d] 108)).alloc (.cells #[.bool false, .slice none 0 0] 102)) := (((Below.refl w.heap.size w).alloc (Nat.le_refl _) _).alloc (by simp <;> omega) _)
  have o1 := heap_more (heap_last w (.cells #[.bool bl, .slice A n c, .bool false, .slice B m d] 108)) (.cells #[.bool false, .slice none 0 0] 102)
  have O1 := Lib.hid o1
  clear o1
  have o2 := heap_last (w.alloc (.cells #[.bool bl, .slice A n c, .bool false, .slice B m d] 108)) (.cells #[.bool false, .slice none 0 0] 102)
  rw [show (w.alloc (.cells #[.bool bl, .slice A n c, .bool false, .slice B m d] 108)).heap.size = w.heap.size + 1 by simp] at o2
  have O2 := Lib.hid o2
  clear o2
  have hsz : ((w.alloc (.cells #[.bool bl, .slice A n c, .bool false, .slice B m d] 108)).alloc (.cells #[.bool false, .slice none 0 0] 102)).heap.size = w.heap.size + 1 + 1 := by simp
  have HSZ := Lib.hid hsz
  clear hsz
  obtain ⟨wB, hwB⟩ : ∃ x, ((w.alloc (.cells #[.bool bl, .slice A n c, .bool false, .slice B m d] 108)).alloc (.cells #[.bool false, .slice none 0 0] 102)) = x := ⟨_, rfl⟩
  rw [hwB] at hW HSZ O1 O2
  have ha1 := Lib.hid (ha.below hW)
  have hb1 := Lib.hid (hb.below hW)
  have hdp := q.den_pos
  clear ha hb
  have x0 := cell_later (j := 0) O1.out (Below.refl _ _)
  have x1 := cell_later (j := 1) O1.out (Below.refl _ _)
  have x2 := cell_later (j := 2) O1.out (Below.refl _ _)
  have x3 := cell_later (j := 3) O1.out (Below.refl _ _)
  simp at x0 x1 x2 x3
  go_enter Tryz.func151, Tryz.ntmps151
  go_wp2_with fail
  try rw [hwB]
  refine (pparts_floor _ bl A n c q.num hbl ha1.out B m d q.den hb1.out hdp hL).mono ?_
  rintro e w1 ⟨b1, A1, l1, c1, b2, A2, l2, c2, rfl, hs1, hA1, hx1⟩
  have r0 := cell_later (j := 0) O2.out hx1
  have r1 := cell_later (j := 1) O2.out hx1
  have rf0 := frozen_later O2.out hx1 0
  have rf1 := frozen_later O2.out hx1 1
  simp at r0 r1
  have HM := Lib.hid hA1
  have HF := Lib.hid (hA1.off (g := w.heap.size + 1) (blk_later O2.out hx1) (by simp) (by simp))
  clear hA1
  have hz1 := hx1.size
  rw [HSZ.out] at hz1
  have hs2 : w.heap.size + 1 < w1.heap.size := by omega
  have hs3 : w.heap.size + 1 < w1.heap.size + 1 := by omega
  have hWE := chain hW hx1
  go_wp2
  refine bodyPost_ret (v := .agg #[.bool b1, .slice A1 l1 c1]) (by simp [results, Tryz.results151, go_sem]; go_simp) rfl ⟨_, _, _, _, rfl, hs1, ?_, ?_⟩
  · repeat (first | with_reducible exact HM.out | (with_reducible refine Ms.below ?_ (below_alloc2 _ _ _)) | with_reducible refine Ms.setCell ?_ HF.out | (with_reducible refine Ms.below ?_ ((Below.refl _ _).alloc (Nat.le_refl _) _)))
  · repeat (first | with_reducible exact hWE | (with_reducible refine Below.setCell ?_ (by first | omega | (simp <;> omega)) _) | (with_reducible refine Below.alloc ?_ (by first | omega | (simp <;> omega)) _))

theorem sign_cases (x : Int) : (x < 0 ∧ x.sign = -1) ∨ (x = 0 ∧ x.sign = 0) ∨ (0 < x ∧ x.sign = 1) := by
  rcases Int.lt_trichotomy x 0 with h | h | h
  · exact Or.inl ⟨h, Int.sign_eq_neg_one_of_neg h⟩
  · subst h; exact Or.inr (Or.inl ⟨rfl, rfl⟩)
  · exact Or.inr (Or.inr ⟨h, Int.sign_eq_one_of_pos h⟩)
theorem val_dropj {xs : List Int} {j : Nat} {x : Int} (h : xs[j]? = some x) : val (xs.drop j) = x + 10000 * val (xs.drop (j + 1)) := by
  obtain ⟨hj, hx⟩ := List.getElem?_eq_some_iff.1 h
  rw [List.drop_eq_getElem_cons hj, hx]
  simp [val]
theorem Dig.drop' {xs : List Int} (h : Dig xs) (j : Nat) : Dig (xs.drop j) := fun x hx => h x (List.mem_of_mem_drop hx)
theorem val_drop_le {xs : List Int} (h : Dig xs) : ∀ j : Nat, 0 ≤ val (xs.drop j) ∧ val (xs.drop j) ≤ val xs := by
  intro j
  induction j with
  | zero => exact ⟨val_nonneg h, Int.le_refl _⟩
  | succ j ih =>
    have h0 := val_nonneg (Dig.drop' h (j + 1))
    refine ⟨h0, Int.le_trans ?_ ih.2⟩
    rcases Nat.lt_or_ge j xs.length with hj | hj
    · have := val_dropj (List.getElem?_eq_getElem hj)
      have hd := (h.get (List.getElem?_eq_getElem hj)).1
      omega
    · rw [List.drop_of_length_le (by omega), List.drop_of_length_le hj]
      exact Int.le_refl _
set_option maxHeartbeats 4000000 in
theorem integral_any (w : World) {L : Nat} (bl : Bool) (A : Option Addr) (n c : Nat) (z : Int) (hbl : Hid (bl = decide (z < 0))) (ha : Ms w L A n c z.natAbs) (hL : L ≤ 1000000) :
    Calls Tryz.prog 150 #[.agg #[.bool bl, .slice A n c]] w fun e w' => e = .returned (.tuple #[.int .i64 (if inI z then z else 0), .int .i64 (if inI z then 0 else 6)]) ∧ Below w.heap.size w w' := by
  have hW : Below w.heap.size w (w.alloc (.cells #[.bool bl, .slice A n c] 102)) := ((Below.refl w.heap.size w).alloc (Nat.le_refl _) _)
  have o1 := heap_last w (.cells #[.bool bl, .slice A n c] 102)
  have O1 := Lib.hid o1
  clear o1
  have hsz : (w.alloc (.cells #[.bool bl, .slice A n c] 102)).heap.size = w.heap.size + 1 := by simp
  have HSZ := Lib.hid hsz
  clear hsz
  obtain ⟨wB, hwB⟩ : ∃ x, (w.alloc (.cells #[.bool bl, .slice A n c] 102)) = x := ⟨_, rfl⟩
  rw [hwB] at hW HSZ O1
  have ha1 := Lib.hid (ha.below hW)
  have hLE : w.heap.size + 1 ≤ wB.heap.size := by rw [HSZ.out]; omega
  have HS : Hid (∀ w', Below (w.heap.size + 1) wB w' → w'.cell? ⟨w.heap.size, 0, none⟩ = some (.bool bl) ∧ w'.cell? ⟨w.heap.size, 1, none⟩ = some (.slice A n c)) := fun w' h => ⟨cell_at (j := 0) O1.out (by omega) h, cell_at (j := 1) O1.out (by omega) h⟩
  have hd0 : Below wB.heap.size wB wB.drew := (Below.refl _ _).drew
  go_enter Tryz.func150, Tryz.ntmps150
  go_upto_region 1 with fail
  try rw [hwB]
  go_cut [15] (fun p wx => p = .bool (!(inI z)) ∧ Below wB.heap.size wB wx)
  case first => as_aux_lemma =>
    rcases sign_cases (z - (-9223372036854775808)) with ⟨g1, s1⟩ | ⟨g1, s1⟩ | ⟨g1, s1⟩
    · have HG1 := Lib.hid s1
      clear s1
      have HB : Hid ((!(inI z)) = true) := by show _ = _; rw [inI]; simp; omega
      have c0 := (HS.out _ (Below.refl _ _)).1
      have c1 := (HS.out _ (Below.refl _ _)).2
      first
        | go_region_with (first
          | (go_at_call 79; (fail_if_success (have hq := hd1)); (refine (integer_any _ (-9223372036854775808) (by decide) (by decide)).mono ?_); rintro e w1 ⟨b1, A1, l1, c1, rfl, hs1, hA1, hx1⟩; have hd1 := chain hd0 hx1; have e0 := (HS.out _ (hd1.mono hLE)).1; have e1 := (HS.out _ (hd1.mono hLE)).2)
          | (go_at_call 154; (fail_if_success (have hq := hd2)); (refine (porder_any _ bl A n c z hbl (ha1.out.below hd1) b1 A1 l1 c1 (-9223372036854775808) hs1 hA1 (by omega) (by omega)).mono ?_); rintro e w2 ⟨rfl, hx2⟩; have hd2 := chain hd1 hx2; rw [HG1.out]; have d0 := (HS.out _ (hd2.mono hLE)).1; have d1 := (HS.out _ (hd2.mono hLE)).2))
        | fail
      all_goals (
        go_wp2_with fail
        go_meet
        exact ⟨by rw [HB.out], hd2⟩)
    · have HG1 := Lib.hid s1
      clear s1
      rcases sign_cases (z - 9223372036854775807) with ⟨g2, s2⟩ | ⟨g2, s2⟩ | ⟨g2, s2⟩
      · have HG2 := Lib.hid s2
        clear s2
        have HB : Hid ((!(inI z)) = false) := by show _ = _; rw [inI]; simp; omega
        go_region_held3 (fun w' => w'.cell? ⟨w.heap.size, 0, none⟩ = some (.bool bl) ∧ w'.cell? ⟨w.heap.size, 1, none⟩ = some (.slice A n c))
          ((refine HS.out _ ?_; repeat (first | with_reducible exact Below.mono hd0 hLE | with_reducible exact Below.mono hd1 hLE | with_reducible exact Below.mono hd2 hLE | with_reducible exact Below.mono hd3 hLE | with_reducible exact Below.mono hd4 hLE | (with_reducible refine Below.setCell ?_ (by first | omega | (simp <;> omega)) _))))
          (first
            | (go_at_call 79; (fail_if_success (have hq := hd1)); (refine (integer_any _ (-9223372036854775808) (by decide) (by decide)).mono ?_); rintro e w1 ⟨b1, A1, l1, c1, rfl, hs1, hA1, hx1⟩; have hd1 := chain hd0 hx1)
            | (go_at_call 154; (fail_if_success (have hq := hd2)); (refine (porder_any _ bl A n c z hbl (ha1.out.below hd1) b1 A1 l1 c1 (-9223372036854775808) hs1 hA1 (by omega) (by omega)).mono ?_); rintro e w2 ⟨rfl, hx2⟩; have hd2 := chain hd1 hx2; rw [HG1.out])
            | (go_at_call 79; (fail_if_success (have hq := hd3)); (refine (integer_any _ 9223372036854775807 (by decide) (by decide)).mono ?_); rintro e w3 ⟨b3, A3, l3, c3, rfl, hs3, hA3, hx3⟩; have hd3 := chain hd2 hx3)
            | (go_at_call 154; (refine (porder_any _ bl A n c z hbl (ha1.out.below hd3) b3 A3 l3 c3 9223372036854775807 hs3 hA3 (by omega) (by omega)).mono ?_); rintro e w4 ⟨rfl, hx4⟩; have hd4 := chain hd3 hx4; rw [HG2.out]))
        all_goals (
          go_wp2_with fail
          go_meet
          exact ⟨by rw [HB.out], hd4⟩)
      · have HG2 := Lib.hid s2
        clear s2
        omega
      · have HG2 := Lib.hid s2
        clear s2
        omega
    · have HG1 := Lib.hid s1
      clear s1
      rcases sign_cases (z - 9223372036854775807) with ⟨g2, s2⟩ | ⟨g2, s2⟩ | ⟨g2, s2⟩
      · have HG2 := Lib.hid s2
        clear s2
        have HB : Hid ((!(inI z)) = false) := by show _ = _; rw [inI]; simp; omega
        go_region_held3 (fun w' => w'.cell? ⟨w.heap.size, 0, none⟩ = some (.bool bl) ∧ w'.cell? ⟨w.heap.size, 1, none⟩ = some (.slice A n c))
          ((refine HS.out _ ?_; repeat (first | with_reducible exact Below.mono hd0 hLE | with_reducible exact Below.mono hd1 hLE | with_reducible exact Below.mono hd2 hLE | with_reducible exact Below.mono hd3 hLE | with_reducible exact Below.mono hd4 hLE | (with_reducible refine Below.setCell ?_ (by first | omega | (simp <;> omega)) _))))
          (first
            | (go_at_call 79; (fail_if_success (have hq := hd1)); (refine (integer_any _ (-9223372036854775808) (by decide) (by decide)).mono ?_); rintro e w1 ⟨b1, A1, l1, c1, rfl, hs1, hA1, hx1⟩; have hd1 := chain hd0 hx1)
            | (go_at_call 154; (fail_if_success (have hq := hd2)); (refine (porder_any _ bl A n c z hbl (ha1.out.below hd1) b1 A1 l1 c1 (-9223372036854775808) hs1 hA1 (by omega) (by omega)).mono ?_); rintro e w2 ⟨rfl, hx2⟩; have hd2 := chain hd1 hx2; rw [HG1.out])
            | (go_at_call 79; (fail_if_success (have hq := hd3)); (refine (integer_any _ 9223372036854775807 (by decide) (by decide)).mono ?_); rintro e w3 ⟨b3, A3, l3, c3, rfl, hs3, hA3, hx3⟩; have hd3 := chain hd2 hx3)
            | (go_at_call 154; (refine (porder_any _ bl A n c z hbl (ha1.out.below hd3) b3 A3 l3 c3 9223372036854775807 hs3 hA3 (by omega) (by omega)).mono ?_); rintro e w4 ⟨rfl, hx4⟩; have hd4 := chain hd3 hx4; rw [HG2.out]))
        all_goals (
          go_wp2_with fail
          go_meet
          exact ⟨by rw [HB.out], hd4⟩)
      · have HG2 := Lib.hid s2
        clear s2
        have HB : Hid ((!(inI z)) = false) := by show _ = _; rw [inI]; simp; omega
        go_region_held3 (fun w' => w'.cell? ⟨w.heap.size, 0, none⟩ = some (.bool bl) ∧ w'.cell? ⟨w.heap.size, 1, none⟩ = some (.slice A n c))
          ((refine HS.out _ ?_; repeat (first | with_reducible exact Below.mono hd0 hLE | with_reducible exact Below.mono hd1 hLE | with_reducible exact Below.mono hd2 hLE | with_reducible exact Below.mono hd3 hLE | with_reducible exact Below.mono hd4 hLE | (with_reducible refine Below.setCell ?_ (by first | omega | (simp <;> omega)) _))))
          (first
            | (go_at_call 79; (fail_if_success (have hq := hd1)); (refine (integer_any _ (-9223372036854775808) (by decide) (by decide)).mono ?_); rintro e w1 ⟨b1, A1, l1, c1, rfl, hs1, hA1, hx1⟩; have hd1 := chain hd0 hx1)
            | (go_at_call 154; (fail_if_success (have hq := hd2)); (refine (porder_any _ bl A n c z hbl (ha1.out.below hd1) b1 A1 l1 c1 (-9223372036854775808) hs1 hA1 (by omega) (by omega)).mono ?_); rintro e w2 ⟨rfl, hx2⟩; have hd2 := chain hd1 hx2; rw [HG1.out])
            | (go_at_call 79; (fail_if_success (have hq := hd3)); (refine (integer_any _ 9223372036854775807 (by decide) (by decide)).mono ?_); rintro e w3 ⟨b3, A3, l3, c3, rfl, hs3, hA3, hx3⟩; have hd3 := chain hd2 hx3)
            | (go_at_call 154; (refine (porder_any _ bl A n c z hbl (ha1.out.below hd3) b3 A3 l3 c3 9223372036854775807 hs3 hA3 (by omega) (by omega)).mono ?_); rintro e w4 ⟨rfl, hx4⟩; have hd4 := chain hd3 hx4; rw [HG2.out]))
        all_goals (
          go_wp2_with fail
          go_meet
          exact ⟨by rw [HB.out], hd4⟩)
      · have HG2 := Lib.hid s2
        clear s2
        have HB : Hid ((!(inI z)) = true) := by show _ = _; rw [inI]; simp; omega
        go_region_held3 (fun w' => w'.cell? ⟨w.heap.size, 0, none⟩ = some (.bool bl) ∧ w'.cell? ⟨w.heap.size, 1, none⟩ = some (.slice A n c))
          ((refine HS.out _ ?_; repeat (first | with_reducible exact Below.mono hd0 hLE | with_reducible exact Below.mono hd1 hLE | with_reducible exact Below.mono hd2 hLE | with_reducible exact Below.mono hd3 hLE | with_reducible exact Below.mono hd4 hLE | (with_reducible refine Below.setCell ?_ (by first | omega | (simp <;> omega)) _))))
          (first
            | (go_at_call 79; (fail_if_success (have hq := hd1)); (refine (integer_any _ (-9223372036854775808) (by decide) (by decide)).mono ?_); rintro e w1 ⟨b1, A1, l1, c1, rfl, hs1, hA1, hx1⟩; have hd1 := chain hd0 hx1)
            | (go_at_call 154; (fail_if_success (have hq := hd2)); (refine (porder_any _ bl A n c z hbl (ha1.out.below hd1) b1 A1 l1 c1 (-9223372036854775808) hs1 hA1 (by omega) (by omega)).mono ?_); rintro e w2 ⟨rfl, hx2⟩; have hd2 := chain hd1 hx2; rw [HG1.out])
            | (go_at_call 79; (fail_if_success (have hq := hd3)); (refine (integer_any _ 9223372036854775807 (by decide) (by decide)).mono ?_); rintro e w3 ⟨b3, A3, l3, c3, rfl, hs3, hA3, hx3⟩; have hd3 := chain hd2 hx3)
            | (go_at_call 154; (refine (porder_any _ bl A n c z hbl (ha1.out.below hd3) b3 A3 l3 c3 9223372036854775807 hs3 hA3 (by omega) (by omega)).mono ?_); rintro e w4 ⟨rfl, hx4⟩; have hd4 := chain hd3 hx4; rw [HG2.out]))
        all_goals (
          go_wp2_with fail
          go_meet
          exact ⟨by rw [HB.out], hd4⟩)
  case rest => as_aux_lemma =>
    obtain ⟨rfl, hbc⟩ := hcut
    cases hI : inI z with
    | false =>
      go_wp2_with fail
      all_goals refine bodyPost_ret (v := .tuple #[.int .i64 0, .int .i64 6]) (by simp [results, Tryz.results150, go_sem]) rfl ⟨rfl, chain hW hbc⟩
    | true =>
      have hI2 := hI
      simp [inI] at hI2
      have hz0 := hI2.1
      have hz1 := hI2.2
      clear hI2
      have c0 := (HS.out _ (hbc.mono hLE)).1
      have c1 := (HS.out _ (hbc.mono hLE)).2
      obtain ⟨hla, xs, hx, nx⟩ := ha1.out
      have hvx : val xs = (z.natAbs : Int) := nx.val_
      have hxc := hx.below hbc
      have hn6 : n ≤ 1000000 := by omega
      go_wp2_with fail
      go_loopw [4, 5] (fun nv iv wr => ∃ (j : Nat) (v : Int), j ≤ n ∧ iv = .int .i64 ((j : Int) - 1) ∧ nv = .int .i64 (-v) ∧ Hid (val (xs.drop j) = v) ∧ Below wc.heap.size wc wr) (fun _ iv _ => (intOf iv + 1).toNat)
      case atStart => exact ⟨n, 0, Nat.le_refl _, rfl, rfl, by show _ = _; rw [List.drop_of_length_le (by rw [hx.len]; omega)]; rfl, Below.refl _ _⟩
      case round =>
        obtain ⟨j, v, hj, rfl, rfl, hv, hbr⟩ := hrel
        have c0 := (HS.out _ ((hbc.trans (hbr.mono hbc.size)).mono hLE)).1
        have c1 := (HS.out _ ((hbc.trans (hbr.mono hbc.size)).mono hLE)).2
        by_cases h0 : 0 < j
        · obtain ⟨i, rfl⟩ : ∃ i, j = i + 1 := ⟨j - 1, by omega⟩
          obtain ⟨b1, o1, x, rfl, hxk, hb1, hc1⟩ := (hxc.below hbr).get (j := i) (by omega)
          have hd := nx.dig.get hxk
          have hvd := val_drop hxk
          rw [hv.out] at hvd
          have hle := (val_drop_le nx.dig i).2
          have hv0 := (val_drop_le nx.dig (i + 1)).1
          rw [hv.out] at hv0
          have hx0 := hd.1
          have hx1 : x ≤ 9999 := by have := hd.2; omega
          have hmost : x + 10000 * v ≤ 9223372036854775808 := by omega
          have HV := Lib.hid hvd
          clear hvd hle hd hxk
          go_wp2
          refine ⟨⟨i, x + 10000 * v, by omega, rfl, congrArg (Value.int .i64) (by omega), HV, hbr⟩, ?_⟩
          simp [intOf] <;> omega
        · obtain rfl : j = 0 := by omega
          have hve : v = (z.natAbs : Int) := by rw [← hv.out, ← hvx]; rfl
          have hWE := chain hW (hbc.trans (hbr.mono hbc.size))
          by_cases hz : z < 0
          · obtain rfl : bl = true := by rw [hbl.out]; simp [hz]
            obtain rfl : z = -v := by omega
            clear hve hvx hv
            go_wp2_with fail
            all_goals refine bodyPost_ret (v := .tuple #[.int .i64 (-v), .int .i64 0]) (by simp [results, Tryz.results150, go_sem]) rfl ⟨rfl, hWE⟩
          · obtain rfl : bl = false := by rw [hbl.out]; simp; omega
            obtain rfl : z = v := by omega
            clear hve hvx hv
            go_wp2_with fail
            all_goals refine bodyPost_ret (v := .tuple #[.int .i64 z, .int .i64 0]) (by simp [results, Tryz.results150, go_sem]) rfl ⟨rfl, hWE⟩

end Go.Proofs.YtkajibniibjblaaGreatDoor.P4
