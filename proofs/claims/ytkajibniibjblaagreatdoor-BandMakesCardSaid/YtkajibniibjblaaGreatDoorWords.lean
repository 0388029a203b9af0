/-
  Words of our own for memory: slices that read as lists of integers. No program in sight.
-/
import Derived.WalkKit
import Derived.Below
import Derived.Laws.OwnMore
import Derived.Deep.AppendLies
import Derived.Deep.Draws
import Derived.Laws.Rows
namespace Go.Proofs.YtkajibniibjblaaGreatDoor
open Go.RowKit

/-- The slice value '.slice A n c' of integers of kind k reads as the list xs in the world w. -/
structure Rd (w : World) (k : IntKind) (A : Option Addr) (n c : Nat) (xs : List Int) : Prop where
  len : xs.length = n
  cap : n ≤ c
  most : c ≤ 9223372036854775807
  nil_ : A = none → c = 0
  at_ : ∀ j d, xs[j]? = some d → ∃ b off, A = some ⟨b, off, none⟩ ∧ b < w.heap.size ∧ w.cell? ⟨b, off + j, none⟩ = some (.int k d)

section
variable {w w' : World} {k : IntKind} {A : Option Addr} {n c : Nat} {xs : List Int}
theorem Rd.keep (h : Rd w k A n c xs) (hs : w.heap.size ≤ w'.heap.size) (hk : ∀ p : Addr, p.block < w.heap.size → w'.cell? p = w.cell? p) : Rd w' k A n c xs :=
  ⟨h.len, h.cap, h.most, h.nil_, fun j d hd => by
    obtain ⟨b, off, e, hb, hc⟩ := h.at_ j d hd
    exact ⟨b, off, e, by omega, (hk _ hb).trans hc⟩⟩
theorem Rd.below (h : Rd w k A n c xs) (hb : Below w.heap.size w w') : Rd w' k A n c xs := h.keep hb.size fun _ hp => hb.cell hp
theorem Rd.get (h : Rd w k A n c xs) {j : Nat} (hj : j < n) : ∃ b off d, A = some ⟨b, off, none⟩ ∧ xs[j]? = some d ∧ b < w.heap.size ∧ w.cell? ⟨b, off + j, none⟩ = some (.int k d) := by
  have hl : j < xs.length := by rw [h.len]; exact hj
  obtain ⟨b, off, e, hb, hc⟩ := h.at_ j _ (List.getElem?_eq_getElem hl)
  exact ⟨b, off, _, e, List.getElem?_eq_getElem hl, hb, hc⟩
end

theorem below_drewN {B : Nat} {a w : World} (h : Below B a w) (n : Nat) : Below B a (w.drewN n) := ⟨h.os, h.tape, h.output, h.size, h.block⟩

theorem chain {w0 w w' : World} (h0 : Below w0.heap.size w0 w) (hb : Below w.heap.size w w') : Below w0.heap.size w0 w' := h0.trans (hb.mono h0.size)
theorem chain_drew {w0 w w' : World} (h0 : Below w0.heap.size w0 w) (hb : Below w.drew.heap.size w.drew w') : Below w0.heap.size w0 w' := h0.drew.trans (hb.mono h0.size)
theorem undrew {B : Nat} {w w' : World} (h : Below B w.drew w') : Below B w w' := ⟨h.os, h.tape, h.output, h.size, h.block⟩

/-- Blocks that a call lays one behind the other, as cells of a later world. -/
theorem cell_later {w1 w2 : World} {b j : Nat} {cs : Array Value} {T : TypeId} (h : w1.heap[b]? = some (.cells cs T (0, 0))) (hb : Below w1.heap.size w1 w2) : w2.cell? ⟨b, j, none⟩ = cs[j]? := by
  have hl : b < w1.heap.size := (Array.getElem?_eq_some_iff.1 h).1
  rw [hb.cell (p := ⟨b, j, none⟩) hl]
  simp [World.cell?, h]
theorem frozen_later {w1 w2 : World} {b : Nat} {cs : Array Value} {T : TypeId} (h : w1.heap[b]? = some (.cells cs T (0, 0))) (hb : Below w1.heap.size w1 w2) (j : Nat) : w2.frozen? ⟨b, j, none⟩ = false := by
  have hl : b < w1.heap.size := (Array.getElem?_eq_some_iff.1 h).1
  rw [hb.frozen (p := ⟨b, j, none⟩) hl]
  simp [World.frozen?, h]
theorem heap_last (w : World) (o : Obj) : (w.alloc o).heap[w.heap.size]? = some o := heap_alloc_new w o
theorem heap_more {w : World} {b : Nat} {o : Obj} (h : w.heap[b]? = some o) (o' : Obj) : (w.alloc o').heap[b]? = some o := by
  rw [Below.heap_alloc w o' b (Array.getElem?_eq_some_iff.1 h).1]; exact h

/-- The list without the zeros at its end. -/
def tl : List Int → List Int
  | [] => []
  | x :: xs => if x = 0 ∧ tl xs = [] then [] else x :: tl xs

theorem tl_append_zero (ys : List Int) : tl (ys ++ [0]) = tl ys := by
  induction ys with
  | nil => simp [tl]
  | cons y ys ih => simp [tl, ih]
theorem tl_take_pred {xs : List Int} {k : Nat} (hk : 0 < k) (h : xs[k - 1]? = some 0) : tl (xs.take (k - 1)) = tl (xs.take k) := by
  obtain ⟨j, rfl⟩ : ∃ j, k = j + 1 := ⟨k - 1, by omega⟩
  simp only [Nat.add_sub_cancel] at h ⊢
  have : xs.take (j + 1) = xs.take j ++ [0] := by rw [List.take_add_one, h]; rfl
  rw [this, tl_append_zero]
theorem tl_append_ne (ys : List Int) {d : Int} (hd : d ≠ 0) : tl (ys ++ [d]) = ys ++ [d] := by
  induction ys with
  | nil => simp [tl, hd]
  | cons y ys ih => simp [tl, ih]
theorem tl_take_ne {xs : List Int} {k : Nat} {d : Int} (hk : 0 < k) (h : xs[k - 1]? = some d) (hd : d ≠ 0) : tl (xs.take k) = xs.take k := by
  obtain ⟨j, rfl⟩ : ∃ j, k = j + 1 := ⟨k - 1, by omega⟩
  simp only [Nat.add_sub_cancel] at h
  have : xs.take (j + 1) = xs.take j ++ [d] := by rw [List.take_add_one, h]; rfl
  rw [this, tl_append_ne _ hd]

/-- The number of a list of digits to the base 10^18, the lowest first. -/
def val : List Int → Int
  | [] => 0
  | x :: xs => x + 1000000000000000000 * val xs

/-- All digits are digits. -/
def Dig (xs : List Int) : Prop := ∀ d ∈ xs, 0 ≤ d ∧ d < 1000000000000000000

/-- The list is the list of the digits of n. -/
structure Nm (xs : List Int) (n : Nat) : Prop where
  dig : Dig xs
  tr : tl xs = xs
  val_ : val xs = n

/-- A whole.Mass of at most L groups that is the number n. -/
def Ms (w : World) (L : Nat) (A : Option Addr) (len c : Nat) (n : Nat) : Prop := len ≤ L ∧ ∃ xs, Rd w .u64 A len c xs ∧ Nm xs n

theorem Ms.below {w w' : World} {L : Nat} {A : Option Addr} {len c n : Nat} (h : Ms w L A len c n) (hb : Below w.heap.size w w') : Ms w' L A len c n :=
  let ⟨hl, xs, hr, hn⟩ := h
  ⟨hl, xs, hr.below hb, hn⟩
theorem Ms.setCell {w : World} {L : Nat} {A : Option Addr} {len c n g j : Nat} {u : Value} (h : Ms w L A len c n) (hg : ∀ ad, A = some ad → 0 < len → ad.block ≠ g) : Ms (w.setCell ⟨g, j, none⟩ u) L A len c n := by
  obtain ⟨hl, xs, hr, hn⟩ := h
  refine ⟨hl, xs, ⟨hr.len, hr.cap, hr.most, hr.nil_, fun k d hd => ?_⟩, hn⟩
  obtain ⟨b, off, e, hb, hc⟩ := hr.at_ k d hd
  have hk := (List.getElem?_eq_some_iff.1 hd).1
  have hne := hg _ e (by rw [← hr.len]; omega)
  refine ⟨b, off, e, by simpa [World.setCell] using hb, ?_⟩
  rw [World.cell?_setCell_other w ⟨g, j, none⟩ ⟨b, off + k, none⟩ u (fun h => hne (by injection h with h; exact h.symm))]
  exact hc
/-- A Mass that is not empty lies in a block of its world. -/
theorem Ms.old {w : World} {L : Nat} {A : Option Addr} {len c n : Nat} (h : Ms w L A len c n) : ∀ ad, A = some ad → 0 < len → ad.block < w.heap.size := by
  intro ad e hl
  obtain ⟨_, xs, hr, _⟩ := h
  obtain ⟨b, off, _, e', _, hb, _⟩ := hr.get hl
  rw [e] at e'
  injection e' with e'
  rw [e']
  exact hb
theorem Ms.mono {w : World} {L L' : Nat} {A : Option Addr} {len c n : Nat} (h : Ms w L A len c n) (hL : L ≤ L') : Ms w L' A len c n :=
  ⟨Nat.le_trans h.1 hL, h.2⟩

/-- A call returned a Mass that is the number n, and made at most new memory. -/
def RetM (w : World) (L n : Nat) : Ending → World → Prop := fun e w' => ∃ A len c, e = .returned (.slice A len c) ∧ Ms w' L A len c n ∧ Below w.heap.size w w' ∧ ∀ ad, A = some ad → w.heap.size ≤ ad.block

theorem ret_eq {a b : Value} (h : a = b) : Ending.returned a = Ending.returned b := by rw [h]

/-! ### digits -/
theorem Dig.nil : Dig [] := fun _ h => by simp at h
theorem Dig.cons {x : Int} {xs : List Int} : Dig (x :: xs) ↔ (0 ≤ x ∧ x < 1000000000000000000) ∧ Dig xs := by simp [Dig]
theorem Dig.append {xs ys : List Int} : Dig (xs ++ ys) ↔ Dig xs ∧ Dig ys := by
  simp only [Dig, List.mem_append]
  exact ⟨fun h => ⟨fun d hd => h d (.inl hd), fun d hd => h d (.inr hd)⟩, fun h d hd => hd.elim (h.1 d) (h.2 d)⟩
theorem Dig.take {xs : List Int} (h : Dig xs) (k : Nat) : Dig (xs.take k) := fun d hd => h d (List.mem_of_mem_take hd)
theorem Dig.drop {xs : List Int} (h : Dig xs) (k : Nat) : Dig (xs.drop k) := fun d hd => h d (List.mem_of_mem_drop hd)
theorem Dig.get {xs : List Int} (h : Dig xs) {j : Nat} {d : Int} (hd : xs[j]? = some d) : 0 ≤ d ∧ d < 1000000000000000000 := h d (List.mem_of_getElem? hd)
theorem Dig.tl {xs : List Int} (h : Dig xs) : Dig (tl xs) := by
  induction xs with
  | nil => exact Dig.nil
  | cons x xs ih =>
    rw [Dig.cons] at h
    simp only [Proofs.YtkajibniibjblaaGreatDoor.tl]
    split
    · exact Dig.nil
    · exact Dig.cons.2 ⟨h.1, ih h.2⟩
theorem val_nonneg {xs : List Int} (h : Dig xs) : 0 ≤ val xs := by
  induction xs with
  | nil => simp [val]
  | cons x xs ih =>
    rw [Dig.cons] at h
    have := ih h.2
    simp only [val]; omega
theorem val_tl (xs : List Int) : val (tl xs) = val xs := by
  induction xs with
  | nil => rfl
  | cons x xs ih =>
    simp only [tl]
    split
    · rename_i h
      simp [val, h.1, ← ih, h.2]
    · simp [val, ih]
theorem tl_tl (xs : List Int) : tl (tl xs) = tl xs := by
  induction xs with
  | nil => rfl
  | cons x xs ih =>
    by_cases h : x = 0 ∧ tl xs = []
    · simp [tl, h]
    · simp only [tl, if_neg h, ih]
theorem tl_length (xs : List Int) : (tl xs).length ≤ xs.length := by
  induction xs with
  | nil => simp [tl]
  | cons x xs ih =>
    simp only [tl]
    split <;> simp <;> omega
theorem tl_prefix (xs : List Int) : xs.take (tl xs).length = tl xs := by
  induction xs with
  | nil => rfl
  | cons x xs ih =>
    simp only [tl]
    split
    · simp
    · simp [ih]
theorem Nm.of_dig {xs : List Int} (h : Dig xs) {n : Nat} (hv : val xs = n) : Nm (tl xs) n := ⟨h.tl, tl_tl xs, (val_tl xs).trans hv⟩
theorem val_append (xs ys : List Int) : val (xs ++ ys) = val xs + 1000000000000000000 ^ xs.length * val ys := by
  induction xs with
  | nil => simp [val]
  | cons x xs ih =>
    simp only [List.cons_append, val, ih, List.length_cons, Int.pow_succ]
    grind
theorem val_lt {xs : List Int} (h : Dig xs) : val xs < 1000000000000000000 ^ xs.length := by
  induction xs with
  | nil => simp [val]
  | cons x xs ih =>
    rw [Dig.cons] at h
    have := ih h.2
    simp only [val, List.length_cons, Int.pow_succ]
    omega
theorem val_zero_iff {xs : List Int} (h : Dig xs) (ht : tl xs = xs) : val xs = 0 ↔ xs = [] := by
  constructor
  · intro hv
    induction xs with
    | nil => rfl
    | cons x xs ih =>
      rw [Dig.cons] at h
      have h0 := val_nonneg h.2
      simp only [val] at hv
      have hx : x = 0 := by omega
      have hvs : val xs = 0 := by omega
      by_cases hc : x = 0 ∧ tl xs = []
      · simp [tl, hc] at ht
      · simp only [tl, if_neg hc, List.cons.injEq, true_and] at ht
        have := ih h.2 ht hvs
        subst this
        exact absurd ⟨hx, rfl⟩ hc
  · rintro rfl; rfl
theorem tl_last {xs : List Int} (ht : tl xs = xs) (hne : xs ≠ []) : ∃ ys d, xs = ys ++ [d] ∧ d ≠ 0 := by
  have hsplit := List.dropLast_concat_getLast hne
  refine ⟨xs.dropLast, xs.getLast hne, hsplit.symm, fun h0 => ?_⟩
  rw [h0] at hsplit
  have h1 := tl_length xs.dropLast
  rw [← hsplit, tl_append_zero, hsplit] at ht
  have : (tl xs.dropLast).length = xs.length := by rw [ht]
  rw [List.length_dropLast] at h1
  have : 0 < xs.length := List.length_pos_iff.2 hne
  omega
theorem Nm.low {xs : List Int} {n : Nat} (h : Nm xs n) (hne : xs ≠ []) : (1000000000000000000 : Int) ^ (xs.length - 1) ≤ n := by
  obtain ⟨ys, d, rfl, hd⟩ := tl_last h.tr hne
  have hdg := Dig.append.1 h.dig
  have h1 := (Dig.cons.1 hdg.2).1
  have h0 := val_nonneg hdg.1
  rw [← h.val_, val_append]
  simp only [val, List.length_append, List.length_cons, List.length_nil]
  have hp : (0 : Int) < 1000000000000000000 ^ ys.length := Int.pow_pos (by omega)
  have : (1000000000000000000 : Int) ^ ys.length * 1 ≤ 1000000000000000000 ^ ys.length * (d + 1000000000000000000 * 0) := Int.mul_le_mul_of_nonneg_left (by omega) (by omega)
  simp at this ⊢
  omega
theorem Nm.uniq {xs ys : List Int} {n : Nat} (h : Nm xs n) (k : Nm ys n) : xs = ys := by
  have main : ∀ (xs ys : List Int), Dig xs → Dig ys → tl xs = xs → tl ys = ys → val xs = val ys → xs = ys := by
    intro xs
    induction xs with
    | nil => intro ys _ dy _ ty hv; exact ((val_zero_iff dy ty).1 hv.symm).symm
    | cons x xs ih =>
      intro ys dx dy tx ty hv
      cases ys with
      | nil => exact (val_zero_iff dx tx).1 hv
      | cons y ys =>
        rw [Dig.cons] at dx dy
        simp only [val] at hv
        have hxy : x = y := by omega
        subst hxy
        have hvv : val xs = val ys := by omega
        have tx' : tl xs = xs := by
          by_cases hc : x = 0 ∧ tl xs = []
          · simp [tl, hc] at tx
          · simpa [tl, if_neg hc] using tx
        have ty' : tl ys = ys := by
          by_cases hc : x = 0 ∧ tl ys = []
          · simp [tl, hc] at ty
          · simpa [tl, if_neg hc] using ty
        rw [ih ys dx.2 dy.2 tx' ty' hvv]
  exact main xs ys h.dig k.dig h.tr k.tr (h.val_.trans k.val_.symm)
theorem Nm.nil : Nm [] 0 := ⟨Dig.nil, rfl, rfl⟩
theorem Nm.zero_iff {xs : List Int} {n : Nat} (h : Nm xs n) : n = 0 ↔ xs = [] := by
  rw [← val_zero_iff h.dig h.tr, h.val_]; omega

theorem val_split (xs : List Int) (k : Nat) : val xs = val (xs.take k) + 1000000000000000000 ^ (xs.take k).length * val (xs.drop k) := by
  conv => lhs; rw [← List.take_append_drop k xs]
  exact val_append _ _
theorem pow_le {i j : Nat} (h : i ≤ j) : (1000000000000000000 : Int) ^ i ≤ 1000000000000000000 ^ j := by
  have : (1000000000000000000 : Nat) ^ i ≤ 1000000000000000000 ^ j := Nat.pow_le_pow_right (by omega) h
  have h2 : ((1000000000000000000 ^ i : Nat) : Int) ≤ ((1000000000000000000 ^ j : Nat) : Int) := by omega
  rwa [Int.natCast_pow, Int.natCast_pow] at h2
theorem Nm.lt_of_len {xs ys : List Int} {a b : Nat} (hx : Nm xs a) (hy : Nm ys b) (h : xs.length < ys.length) : a < b := by
  have h1 := val_lt hx.dig
  rw [hx.val_] at h1
  have hne : ys ≠ [] := by rintro rfl; simp at h
  have h2 := hy.low hne
  have h3 : (1000000000000000000 : Int) ^ xs.length ≤ 1000000000000000000 ^ (ys.length - 1) := pow_le (by omega)
  omega
theorem val_lt_of_digit {xs ys : List Int} (dx : Dig xs) (dy : Dig ys) {k : Nat} {x y : Int} (hl : xs.length = ys.length) (hd : xs.drop (k + 1) = ys.drop (k + 1))
    (hx : xs[k]? = some x) (hy : ys[k]? = some y) (h : x < y) : val xs < val ys := by
  have kx : k < xs.length := (List.getElem?_eq_some_iff.1 hx).1
  rw [val_split xs k, val_split ys k]
  have e1 : xs.drop k = x :: xs.drop (k + 1) := by rw [List.drop_eq_getElem_cons kx, (List.getElem?_eq_some_iff.1 hx).2]
  have e2 : ys.drop k = y :: ys.drop (k + 1) := by rw [List.drop_eq_getElem_cons (by omega), (List.getElem?_eq_some_iff.1 hy).2]
  have l1 : (xs.take k).length = k := by rw [List.length_take]; omega
  have l2 : (ys.take k).length = k := by rw [List.length_take]; omega
  have v1 := val_lt (dx.take k)
  have v2 := val_nonneg (dy.take k)
  rw [e1, e2, l1, l2, hd]
  rw [l1] at v1
  simp only [val]
  generalize val (ys.drop (k + 1)) = z
  have : (1000000000000000000 : Int) ^ k * (x + 1000000000000000000 * z) + 1000000000000000000 ^ k * 1 ≤ 1000000000000000000 ^ k * (y + 1000000000000000000 * z) := by
    rw [← Int.mul_add]
    exact Int.mul_le_mul_of_nonneg_left (by omega) (Int.le_of_lt (Int.pow_pos (by omega)))
  omega

/-- The sign of a comparison. -/
def CmpR (r : Int) (a b : Nat) : Prop := (r < 0 ↔ a < b) ∧ (0 < r ↔ b < a)

end Go.Proofs.YtkajibniibjblaaGreatDoor
