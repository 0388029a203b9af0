/-
  Laws for the walk: make, copy and stores on rows of integers that a call itself made. No program in sight.
-/
import Derived.Test.YtkajibniibjblaaGreatDoorWords
import Derived.Laws.CopyOwn
import Derived.Deep.OwnRows
import Derived.OwnWalk
import Derived.Laws.AppendOwnNone
namespace Go.Proofs.YtkajibniibjblaaGreatDoor
open Go.RowKit Go.Deep

/-- Block g is a row that may be written, whose first cells are the integers cs of kind k. -/
def Own (w : World) (k : IntKind) (E : TypeId) (g : Nat) (cs : List Int) : Prop := ∃ zs, w.heap[g]? = some (.cells (cs.map (Value.int k) ++ zs).toArray E (0, 0))

section
variable {w w' : World} {k : IntKind} {E : TypeId} {g : Nat} {cs : List Int}
theorem Own.lt (h : Own w k E g cs) : g < w.heap.size := by
  obtain ⟨zs, h⟩ := h
  rcases Nat.lt_or_ge g w.heap.size with hlt | hge
  · exact hlt
  · rw [Array.getElem?_eq_none hge] at h; cases h
theorem Own.cell (h : Own w k E g cs) {j : Nat} {d : Int} (hd : cs[j]? = some d) : w.cell? ⟨g, j, none⟩ = some (.int k d) := by
  obtain ⟨zs, h⟩ := h
  rw [cell_of_row w g j _ E (0, 0) h]
  have hj := (List.getElem?_eq_some_iff.1 hd).1
  simp only [List.getElem?_toArray]
  rw [List.getElem?_append_left (by simpa using hj)]
  simp [hd]
theorem Own.frozen (h : Own w k E g cs) (j : Nat) : w.frozen? ⟨g, j, none⟩ = false := by
  obtain ⟨zs, h⟩ := h
  simp [World.frozen?, h]
theorem Own.set_ (h : Own w k E g cs) (j : Nat) (x : Int) : Own (w.setCell ⟨g, j, none⟩ (.int k x)) k E g (cs.set j x) := by
  obtain ⟨zs, h⟩ := h
  by_cases hj : j < cs.length
  · refine ⟨zs, ?_⟩
    simp [World.setCell, Array.getElem?_modify, h, List.map_set, hj]
  · refine ⟨zs.set (j - cs.length) (.int k x), ?_⟩
    simp [World.setCell, Array.getElem?_modify, h, List.set_append, hj, List.set_eq_of_length_le (Nat.le_of_not_lt hj)]
theorem Own.below {B : Nat} (h : Own w k E g cs) (hb : Below B w w') (hg : g < B) : Own w' k E g cs := by
  obtain ⟨zs, h⟩ := h
  exact ⟨zs, (hb.block g hg).trans h⟩
theorem Own.after (h : Own w k E g cs) (hb : Below w.heap.size w w') : Own w' k E g cs := h.below hb h.lt
theorem Own.alloc (h : Own w k E g cs) (o : Obj) : Own (w.alloc o) k E g cs := h.after ((Below.refl _ _).alloc (Nat.le_refl _) _)
theorem Own.drewN (h : Own w k E g cs) (n : Nat) : Own (w.drewN n) k E g cs := h
theorem Own.far (h : Own w k E g cs) {p : Addr} (hp : g ≠ p.block) (u : Value) : Own (w.setCell p u) k E g cs := by
  obtain ⟨zs, h⟩ := h
  exact ⟨zs, (Below.heap_setCell w p u g hp).trans h⟩
theorem Own.rd (h : Own w k E g cs) {n c : Nat} (hn : cs.length = n) (hc : n ≤ c) (hm : c ≤ 9223372036854775807) : Rd w k (some ⟨g, 0, none⟩) n c cs :=
  ⟨hn, hc, hm, (fun h => by cases h), fun j d hd => ⟨g, 0, rfl, h.lt, by rw [Nat.zero_add]; exact h.cell hd⟩⟩

/-- A slice value that owns its row from block B on, or is nil. -/
abbrev OwnS (w : World) (k : IntKind) (E : TypeId) (B : Nat) (A : Option Addr) (n c : Nat) (cs : List Int) : Prop := w.ownsRow B E 1 (.slice A n c) n (cs.map (Value.int k))

theorem OwnS.len {B n c : Nat} {A : Option Addr} (h : OwnS w k E B A n c cs) : cs.length = n := by have := h.1; simpa using this
theorem OwnS.own {B n c : Nat} {A : Option Addr} (h : OwnS w k E B A n c cs) (hn : 0 < n) : ∃ g, A = some ⟨g, 0, none⟩ ∧ B ≤ g ∧ n ≤ c ∧ c ≤ 9223372036854775807 ∧ Own w k E g cs := by
  rcases h.2 with ⟨hv, h0⟩ | ⟨g, cap, cur, hv, hb, hh, hc, hm, hs, ht⟩
  · omega
  · injection hv with h1 h2 h3
    subst h1 h3
    refine ⟨g, rfl, hb, hc, by simpa [maxLen] using hm, cur.toList.drop n, ?_⟩
    rw [hh, ← ht]
    simp
theorem OwnS.rd {B n c : Nat} {A : Option Addr} (h : OwnS w k E B A n c cs) : Rd w k A n c cs := by
  rcases h.2 with ⟨hv, h0⟩ | ⟨g, cap, cur, hv, hb, hh, hc, hm, hs, ht⟩
  · injection hv with h1 h2 h3
    subst h1 h3 h0
    refine ⟨h.len, Nat.le_refl _, by omega, fun _ => rfl, fun j d hd => ?_⟩
    have := h.len
    have := (List.getElem?_eq_some_iff.1 hd).1
    omega
  · injection hv with h1 h2 h3
    subst h1 h3
    have ho : Own w k E g cs := ⟨cur.toList.drop n, by rw [hh, ← ht]; simp⟩
    exact ho.rd h.len hc (by simpa [maxLen] using hm)
theorem OwnS.fresh {B n c : Nat} {A : Option Addr} (h : OwnS w k E B A n c cs) : ∀ ad, A = some ad → B ≤ ad.block := by
  intro ad e
  rcases h.2 with ⟨hv, h0⟩ | ⟨g, cap, cur, hv, hb, hh, hc, hm, hs, ht⟩
  · injection hv with h1 h2 h3
    rw [e] at h1
    cases h1
  · injection hv with h1 h2 h3
    rw [e] at h1
    injection h1 with h1
    rw [h1]
    exact hb
theorem OwnS.nil (w : World) (k : IntKind) (E : TypeId) (B : Nat) : OwnS w k E B none 0 0 [] := World.ownsRow_nil w B E 1
theorem Own.owns (h : Own w k E g cs) {B n : Nat} (hB : B ≤ g) (hn : cs.length = n) (hs : ∃ o, w.heap[g]? = some o ∧ ∀ c e f, o = .cells c e f → c.size = n) (hm : n ≤ 9223372036854775807) : OwnS w k E B (some ⟨g, 0, none⟩) n n cs := by
  obtain ⟨zs, h⟩ := h
  obtain ⟨o, ho, hsz⟩ := hs
  rw [h] at ho
  injection ho with ho
  have hsz := hsz _ _ _ ho.symm
  refine ⟨by simpa using hn, .inr ⟨g, n, _, rfl, hB, h, Nat.le_refl _, by simpa [maxLen] using hm, by rw [hsz, Nat.mul_one], ?_⟩⟩
  simp [← hn]
end

theorem Rd.take {w : World} {k : IntKind} {A : Option Addr} {n c : Nat} {xs : List Int} (h : Rd w k A n c xs) {m : Nat} (hm : m ≤ n) : Rd w k A m c (xs.take m) :=
  ⟨by rw [List.length_take, h.len]; exact Nat.min_eq_left hm, Nat.le_trans hm h.cap, h.most, h.nil_, fun j d hd => by
    rw [List.getElem?_take] at hd
    split at hd
    · exact h.at_ j d hd
    · cases hd⟩
theorem Rd.tl_ {w : World} {k : IntKind} {A : Option Addr} {n c : Nat} {xs : List Int} (h : Rd w k A n c xs) : Rd w k A (tl xs).length c (tl xs) := by
  have h1 := h.take (m := (tl xs).length) (by rw [← h.len]; exact tl_length xs)
  rwa [tl_prefix] at h1

theorem Rd.src {w : World} {k : IntKind} {A : Option Addr} {n c : Nat} {xs : List Int} (h : Rd w k A n c xs) (hn : 0 < n) : ∃ ad, A = some ad ∧ ∀ j v, (xs.map (Value.int k))[j]? = some v → w.cell? (ad.add j) = some v := by
  obtain ⟨b, off, _, e, _, _, _⟩ := h.get hn
  refine ⟨_, e, fun j v hv => ?_⟩
  rw [List.getElem?_map] at hv
  obtain ⟨dd, hdd, rfl⟩ := Option.map_eq_some_iff.1 hv
  obtain ⟨b', off', e', _, hc⟩ := h.at_ j dd hdd
  rw [e] at e'
  injection e' with e'
  injection e' with e1 e2
  subst e1 e2
  rw [← hc]
  unfold Addr.add
  split
  · rename_i h0; subst h0; rfl
  · rfl

theorem madeCells_int (k : IntKind) (n : Nat) : madeCells #[Value.int k 0] n = ((List.replicate n (0 : Int)).map (Value.int k)).toArray := by
  apply Array.ext
  · simp [madeCells]
  · intro i h1 h2
    simp [madeCells, Nat.mod_one]

theorem OwnS.made (w : World) (k : IntKind) (E : TypeId) (ds : List Int) (hm : ds.length ≤ 9223372036854775807) :
    OwnS (w.alloc (.cells (ds.map (Value.int k)).toArray E)) k E w.heap.size (some ⟨w.heap.size, 0, none⟩) ds.length ds.length ds := by
  have ho : Own (w.alloc (.cells (ds.map (Value.int k)).toArray E)) k E w.heap.size ds := ⟨[], by rw [heap_alloc_new]; simp⟩
  exact ho.owns (Nat.le_refl _) rfl ⟨_, heap_alloc_new _ _, fun c e f h => by injection h with h; rw [← h]; simp⟩ hm
theorem OwnS.made' (w : World) (k : IntKind) (E : TypeId) (B n : Nat) (hB : B ≤ w.heap.size) (hm : n ≤ 9223372036854775807) :
    OwnS (w.alloc (.cells (madeCells #[Value.int k 0] n) E)) k E B (some ⟨w.heap.size, 0, none⟩) n n (List.replicate n 0) := by
  have ho : Own (w.alloc (.cells (madeCells #[.int k 0] n) E)) k E w.heap.size (List.replicate n 0) := ⟨[], by rw [heap_alloc_new, madeCells_int]; simp⟩
  exact ho.owns hB (by simp) ⟨_, heap_alloc_new _ _, fun c e f h => by injection h with h; rw [← h]; simp [madeCells]⟩ hm
theorem OwnS.after {w w' : World} {k : IntKind} {E : TypeId} {B n c : Nat} {A : Option Addr} {cs : List Int} (h : OwnS w k E B A n c cs) (hb : Below w.heap.size w w') : OwnS w' k E B A n c cs := by
  refine ⟨h.1, ?_⟩
  rcases h.2 with h0 | ⟨g, cap, cur, hv, hg, hh, r⟩
  · exact .inl h0
  · refine .inr ⟨g, cap, cur, hv, hg, ?_, r⟩
    rw [hb.block g (Array.getElem?_eq_some_iff.1 hh).1]
    exact hh
theorem wpList_make {P : Program} (w : World) {ops : Array Oper} {rest : List Oper} {o : Oper} {a : Act} {Q : Exit → Act → World → Prop}
    (hg : o.guard = none) (l c : Operand) (t : TypeId) (hop : o.op = Op.makeSlice t l c)
    (E : TypeId) (k : IntKind) (bytes : Nat) (ht : P.underlying t = some (.slice E)) (hinfo : (P.info? E).map (fun i => (i.zero, i.size, i.bytes)) = some (some (.int k 0), 1, bytes))
    (N : Nat) (hl : a.eval l = .int .i64 (N : Int)) (hc : a.eval c = .int .i64 (N : Int)) (hbytes : bytes * N ≤ 281474976710656) (hN : N ≤ 9223372036854775807)
    (hK : ∀ g w', Own w' k E g (List.replicate N 0) → OwnS w' k E g (some ⟨g, 0, none⟩) N N (List.replicate N 0) → Below w.heap.size w w' → w.heap.size ≤ g → g < w'.heap.size → wpList P ops Q rest (a.put o.dst (.slice (some ⟨g, 0, none⟩) N N)) w') :
    wpList P ops Q (o :: rest) a w := by
  obtain ⟨i, hi, hzz⟩ := Option.map_eq_some_iff.1 hinfo
  simp only [Prod.mk.injEq] at hzz
  obtain ⟨hz, hs, hb⟩ := hzz
  refine wpList_make_row w hg l c t hop E i (.int k 0) ht hi hz hs rfl .i64 .i64 N hl hc (by rw [hb]; exact hbytes) hN ?_
  have ho : Own (w.alloc (.cells (madeCells #[.int k 0] N) E)) k E w.heap.size (List.replicate N 0) := ⟨[], by rw [heap_alloc_new, madeCells_int]; simp⟩
  exact hK _ _ ho (ho.owns (Nat.le_refl _) (by simp) ⟨_, heap_alloc_new _ _, fun c e f h => by injection h with h; rw [← h]; simp [madeCells]⟩ hN) ((Below.refl _ _).alloc (Nat.le_refl _) _) (Nat.le_refl _) ho.lt

theorem wpList_copy {P : Program} {w : World} {ops : Array Oper} {rest : List Oper} {o : Oper} {a : Act} {Q : Exit → Act → World → Prop} (hgd : o.guard = none) (d s : Operand) (dT sT : TypeId)
    (ho : o.op = .call { callee := .builtin .copy, args := #[d, s], argTypes := #[dT, sT] }) (E : TypeId) (hu : P.underlying dT = some (.slice E)) (hsz : (P.info? E).map (·.size) = some 1)
    (k : IntKind) (A : Option Addr) (n c : Nat) (xs : List Int) (hs : a.eval s = .slice A n c) (hx : Rd w k A n c xs)
    (g N C : Nat) (cur : List Int) (hd : a.eval d = .slice (some ⟨g, 0, none⟩) N C) (hg : Own w k E g cur) (hN : n ≤ N) (hl : N ≤ cur.length)
    (h : ∀ w', Own w' k E g (xs ++ cur.drop n) → Below g w w' → wpList P ops Q rest (a.put o.dst (.int .i64 n)) w') : wpList P ops Q (o :: rest) a w := by
  have hlen := hx.len
  obtain ⟨zs, hg⟩ := hg
  refine wpList_copy_splice hgd d s dT sT ho E hu hsz (some ⟨g, 0, none⟩) A N C n c hd hs g 0 (cur.map (Value.int k) ++ zs) E hg (xs.map (Value.int k)) ?_ ?_ ?_ ?_ g w (Below.refl _ _) (Nat.le_refl _) ?_
  · rw [List.length_map, hlen]; exact (Nat.min_eq_left hN).symm
  · intro hp
    rw [List.length_map, hlen] at hp
    exact ⟨rfl, hx.src hp⟩
  · rw [List.length_append, List.length_map, List.length_map, hlen]; omega
  · intro v hv
    obtain ⟨dd, _, rfl⟩ := List.mem_map.1 hv
    rfl
  · intro w' hw hb
    have hw := hw.out
    rw [List.length_map, hlen]
    refine h w' ⟨zs, ?_⟩ hb
    rw [hw]
    have : n ≤ cur.length := by omega
    simp [splice, hlen, List.drop_append, this]

theorem wp_append {P : Program} {w : World} {o : Oper} {a : Act} {K : Act → World → Prop} {Q : Exit → Act → World → Prop} (s x : Operand) (t : TypeId)
    (ho : o.op = .call { callee := .builtin .append, args := #[s, x], argTypes := #[t, t] })
    (E : TypeId) (k : IntKind) (bytes : Nat) (ht : P.underlying t = some (.slice E)) (hinfo : (P.info? E).map (fun i => (i.zero, i.size, i.bytes)) = some (some (.int k 0), 1, bytes))
    (B : Nat) (A : Option Addr) (n c : Nat) (cs : List Int) (hs : a.eval s = .slice A n c) (hown : OwnS w k E B A n c cs)
    (A2 : Option Addr) (m c2 : Nat) (xs : List Int) (hx : a.eval x = .slice A2 m c2) (hr : Rd w k A2 m c2 xs)
    (hlen : n + m ≤ 1000000000000) (hbytes : bytes ≤ 8) (hB : B ≤ w.heap.size)
    (h : ∀ A' c' w', OwnS w' k E B A' (n + m) c' (cs ++ xs) → Below B w w' → w.grownBy w' (Value.slice A n c).ownBlock → K (a.put o.dst (.slice A' (n + m) c')) w') : o.wp P a w K Q := by
  rcases A2 with _ | ad
  · have h0 : c2 = 0 := hr.nil_ rfl
    have hm : m = 0 := by have := hr.cap; omega
    subst h0 hm
    have hxs : xs = [] := List.eq_nil_of_length_eq_zero hr.len
    subst hxs
    obtain ⟨i, hi, _⟩ := Option.map_eq_some_iff.1 hinfo
    have hrun := run_append_owned_none (P := P) (w := w) B t o.type E i 1 ht hi _ n _ hown
    unfold Oper.wp
    simp [execOp, ho, resolve, invoke, builtin, hs, hx, hrun, Result.andThen]
    exact h A c w (by rw [List.append_nil]; exact hown) (Below.refl _ _) (World.grownBy.refl _ _)
  · obtain ⟨i, hi, hzz⟩ := Option.map_eq_some_iff.1 hinfo
    simp only [Prod.mk.injEq] at hzz
    obtain ⟨hz, hs1, hb⟩ := hzz
    have hsrc : ∀ j u, (xs.map (Value.int k))[j]? = some u → w.cell? (ad.add j) = some u := by
      intro j u hu
      have hj : j < m := by have := (List.getElem?_eq_some_iff.1 hu).1; rw [List.length_map, hr.len] at this; exact this
      obtain ⟨ad', e, hc⟩ := hr.src (by omega)
      injection e with e
      subst e
      exact hc j u hu
    have hmul : (n + m) * bytes ≤ 1000000000000 * 8 := Nat.mul_le_mul hlen hbytes
    refine wp_append_own w s x t ho B E i (.int k 0) 1 bytes ht hi hz hs1 hb rfl (by omega) (.slice A n c) n (cs.map (Value.int k)) hs hown ad m c2 (xs.map (Value.int k)) hx (by rw [List.length_map, hr.len, Nat.mul_one]) hsrc ?_ (by simp only [maxLen]; omega) (by omega) hB ?_
    · intro v hv
      obtain ⟨dd, _, rfl⟩ := List.mem_map.1 hv
      rfl
    · intro v' w' hown' hgrow _
      have hv' : ∃ A' c', v' = .slice A' (n + m) c' := by
        rcases hown'.2 with ⟨rfl, e⟩ | ⟨g, cap, cur, rfl, _⟩
        · exact ⟨none, 0, by rw [e]⟩
        · exact ⟨_, _, rfl⟩
      obtain ⟨A', c', rfl⟩ := hv'
      rw [← List.map_append] at hown'
      exact h A' c' w' hown' ((Below.refl B w).grown hgrow hB (fun g hg => (hown.lt g hg).1)) hgrow

theorem wpList_append {P : Program} {w : World} {ops : Array Oper} {rest : List Oper} {o : Oper} {a : Act} {Q : Exit → Act → World → Prop} (hgd : o.guard = none) (s x : Operand) (t : TypeId)
    (ho : o.op = .call { callee := .builtin .append, args := #[s, x], argTypes := #[t, t] })
    (E : TypeId) (k : IntKind) (bytes : Nat) (ht : P.underlying t = some (.slice E)) (hinfo : (P.info? E).map (fun i => (i.zero, i.size, i.bytes)) = some (some (.int k 0), 1, bytes))
    (B : Nat) (A : Option Addr) (n c : Nat) (cs : List Int) (hs : a.eval s = .slice A n c) (hown : OwnS w k E B A n c cs)
    (A2 : Option Addr) (m c2 : Nat) (xs : List Int) (hx : a.eval x = .slice A2 m c2) (hr : Rd w k A2 m c2 xs)
    (hlen : n + m ≤ 1000000000000) (hbytes : bytes ≤ 8) (hB : B ≤ w.heap.size)
    (h : ∀ A' c' w', OwnS w' k E B A' (n + m) c' (cs ++ xs) → Below B w w' → w.grownBy w' (Value.slice A n c).ownBlock → wpList P ops Q rest (a.put o.dst (.slice A' (n + m) c')) w') : wpList P ops Q (o :: rest) a w :=
  wpList_plain hgd fun _ hK => wp_append s x t ho E k bytes ht hinfo B A n c cs hs hown A2 m c2 xs hx hr hlen hbytes hB fun A' c' w' h1 h2 h3 => hK _ _ (h A' c' w' h1 h2 h3)

/-- .. as one step of a region that draws its order. -/
theorem step_append {P : Program} {w : World} {ops : Array Oper} {o : Oper} {a : Act} {K : Act → World → Prop} {Q : Exit → Act → World → Prop} {EE : Prop} (hgd : o.guard = none) (s x : Operand) (t : TypeId)
    (ho : o.op = .call { callee := .builtin .append, args := #[s, x], argTypes := #[t, t] })
    (E : TypeId) (k : IntKind) (bytes : Nat) (ht : P.underlying t = some (.slice E)) (hinfo : (P.info? E).map (fun i => (i.zero, i.size, i.bytes)) = some (some (.int k 0), 1, bytes))
    (B : Nat) (A : Option Addr) (n c : Nat) (cs : List Int) (hs : a.eval s = .slice A n c) (hown : OwnS w k E B A n c cs)
    (A2 : Option Addr) (m c2 : Nat) (xs : List Int) (hx : a.eval x = .slice A2 m c2) (hr : Rd w k A2 m c2 xs)
    (hlen : n + m ≤ 1000000000000) (hbytes : bytes ≤ 8) (hB : B ≤ w.heap.size)
    (h : ∀ A' c' w', OwnS w' k E B A' (n + m) c' (cs ++ xs) → Below B w w' → w.grownBy w' (Value.slice A n c).ownBlock → K (a.put o.dst (.slice A' (n + m) c')) w') :
    if Region.wanted o (yielded ops a.tmps) = true then Oper.wp P o a w K Q else EE := by
  have hw : Region.wanted o (yielded ops a.tmps) = true := by simp [Region.wanted, hgd]
  rw [if_pos hw]
  exact wp_append s x t ho E k bytes ht hinfo B A n c cs hs hown A2 m c2 xs hx hr hlen hbytes hB h

end Go.Proofs.YtkajibniibjblaaGreatDoor
