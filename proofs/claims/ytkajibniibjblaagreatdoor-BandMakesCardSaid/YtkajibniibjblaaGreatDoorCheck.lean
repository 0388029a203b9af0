/-
  whole.Check.
-/
import Derived.Test.YtkajibniibjblaaGreatDoorWtext
import Derived.Test.YtkajibniibjblaaGreatDoorParts
import Derived.Test.YtkajibniibjblaaGreatDoorShelf
namespace Go.Proofs.YtkajibniibjblaaGreatDoor
open Go.RowKit
set_option maxRecDepth 100000

theorem other_any (r : Nat) (W : World) : Calls Tryz.prog 166 #[.int .i32 (r : Int)] W fun e w' => e = .returned (.bool (noDg r)) ∧ ∃ q, w' = W.drewN q := by
  by_cases h : r < 48
  · have HN : Hid (noDg r = true) := by show _ = _; simp [noDg, h]
    have h' : (r : Int) < 48 := by omega
    clear h
    go_enter Tryz.func166, Tryz.ntmps166
    go_wp2
    go_ret
    exact ⟨by rw [HN.out]; rfl, 0, rfl⟩
  · have h' : ¬ (r : Int) < 48 := by omega
    by_cases h2 : 57 < r
    · have HN : Hid (noDg r = true) := by show _ = _; simp [noDg, h2]
      have h2' : 57 < (r : Int) := by omega
      clear h h2
      go_enter Tryz.func166, Tryz.ntmps166
      go_wp2
      go_ret
      exact ⟨by rw [HN.out]; rfl, 0, rfl⟩
    · have HN : Hid (noDg r = false) := by show _ = _; simp [noDg, h2]; omega
      have h2' : ¬ 57 < (r : Int) := by omega
      clear h h2
      go_enter Tryz.func166, Tryz.ntmps166
      go_wp2
      go_ret
      exact ⟨by rw [HN.out]; rfl, 0, rfl⟩

/-- Check's answer. -/
def wokE (s : ByteArray) : Int := if wok s then 0 else 10

theorem wok_parts (s T : ByteArray) (hT : T.data.toList = Lib.trimPrefix s.data.toList [45]) :
    wok s = (decide (T ≠ ⟨#[]⟩) && decide (T.size ≤ 600) && digs T.data.toList && !(decide (T.data.toList.head? = some 48) && (decide (1 < T.size) || decide (1 < s.size)))) := by
  unfold wok
  rw [← hT]
  simp only
  have h1 : (T.data.toList ≠ []) ↔ (T ≠ ⟨#[]⟩) := by
    rcases T with ⟨⟨l⟩⟩
    simp
  rw [decide_eq_decide.2 h1]
  rfl

theorem check_any (w : World) (s : ByteArray) :
    Calls Tryz.prog 130 #[.string s] w fun e w' => e = .returned (.int .i64 (wokE s)) ∧ Below w.heap.size w w' := by
  obtain ⟨T, hT⟩ : ∃ T : ByteArray, (⟨(Lib.trimPrefix s.data.toList [45]).toArray⟩ : ByteArray) = T := ⟨_, rfl⟩
  have HT : Hid ((⟨(Lib.trimPrefix s.data.toList [45]).toArray⟩ : ByteArray) = T) := hT
  have hT2 : T.data.toList = Lib.trimPrefix s.data.toList [45] := by rw [← hT]
  have hwp := wok_parts s T hT2
  have hix := idx_digs T T.size 0 (by omega)
  have hi : Lib.idxFuncFrom noDg true T T.size 0 = Lib.idxFunc noDg true T := rfl
  rw [hi, List.drop_zero] at hix
  clear hi hT hT2
  by_cases h0 : T = ⟨#[]⟩
  · have hW : Hid (wokE s = 10) := by
      show _ = _
      rw [wokE, hwp, h0]; simp
    clear hix hwp
    subst h0
    go_enter Tryz.func130, Tryz.ntmps130
    go_wp2_with (first
      | (go_at_call 165; go_must (refine (Tryz.strings_TrimPrefix _ _ _).mono ?_; rintro e w1 ⟨rfl, rfl⟩; rw [show (#[45] : Array UInt8).toList = [45] from rfl, HT.out]))
      | (go_at_call 167; go_must (refine (Tryz.strings_ContainsFunc 166 #[] (fun _ _ => rfl) noDg _ _ (fun W x _ => other_any x W)).mono ?_; rintro e w2 ⟨rfl, hb2⟩; rw [hix])))
    go_ret
    exact ⟨by rw [hW.out]; rfl, Below.refl _ _⟩
  have hsz : 0 < T.size := by
    rcases Nat.eq_zero_or_pos T.size with e | e
    · refine absurd ?_ h0
      rcases T with ⟨⟨l⟩⟩
      have : l = [] := List.eq_nil_of_length_eq_zero e
      rw [this]
    · exact e
  have hsI : 0 < (T.size : Int) := by omega
  have hne : T.toList.isEmpty = false := by
    rw [Lib.toList_data]
    rcases T with ⟨⟨l⟩⟩
    cases l with
    | nil => exact absurd rfl h0
    | cons _ _ => rfl
  by_cases h6 : 600 < T.size
  · have hW : Hid (wokE s = 10) := by
      show _ = _
      have : ¬ T.size ≤ 600 := by omega
      rw [wokE, hwp]; simp [this]
    have h6' : 600 < (T.size : Int) := by omega
    clear hix hwp h6 h0
    go_enter Tryz.func130, Tryz.ntmps130
    go_wp2_with (first
      | (go_at_call 165; go_must (refine (Tryz.strings_TrimPrefix _ _ _).mono ?_; rintro e w1 ⟨rfl, rfl⟩; rw [show (#[45] : Array UInt8).toList = [45] from rfl, HT.out]))
      | (go_at_call 167; go_must (refine (Tryz.strings_ContainsFunc 166 #[] (fun _ _ => rfl) noDg _ _ (fun W x _ => other_any x W)).mono ?_; rintro e w2 ⟨rfl, hb2⟩; rw [hix])))
    go_ret
    exact ⟨by rw [hW.out]; rfl, Below.refl _ _⟩
  by_cases hd : digs T.data.toList = true
  · rw [hd] at hix
    simp only [Bool.not_true] at hix
    have h6' : ¬ 600 < (T.size : Int) := by omega
    have h6'' : T.size ≤ 600 := by omega
    obtain ⟨c, hc⟩ : ∃ c, T[0]'hsz = c := ⟨_, rfl⟩
    have hhd : T.data.toList.head? = some c := by
      rcases T with ⟨⟨l⟩⟩
      cases l with
      | nil => exact absurd rfl h0
      | cons x l => rw [← hc]; rfl
    rw [hhd] at hwp
    by_cases h48 : c = 48
    · have hcI : ((T[0]'hsz).toNat : Int) = 48 := by rw [hc, h48]; rfl
      by_cases hl : 1 < T.size
      · have hlI : 1 < (T.size : Int) := by omega
        have hW : Hid (wokE s = 10) := by
          show _ = _
          rw [wokE, hwp]; simp [h48, hl]
        clear hwp h6 hd h0 h6'' hhd hl
        go_enter Tryz.func130, Tryz.ntmps130
        go_wp2_with (first
          | (go_at_call 165; go_must (refine (Tryz.strings_TrimPrefix _ _ _).mono ?_; rintro e w1 ⟨rfl, rfl⟩; rw [show (#[45] : Array UInt8).toList = [45] from rfl, HT.out]))
          | (go_at_call 167; go_must (refine (Tryz.strings_ContainsFunc 166 #[] (fun _ _ => rfl) noDg _ _ (fun W x _ => other_any x W)).mono ?_; rintro e w2 ⟨rfl, hb2⟩; rw [hix])))
        all_goals first | (exfalso; omega) | (go_ret; exact ⟨by rw [hW.out]; rfl, hb2⟩)
      · have hlI : ¬ 1 < (T.size : Int) := by omega
        by_cases hs : 1 < s.size
        · have hsI : 1 < (s.size : Int) := by omega
          have hW : Hid (wokE s = 10) := by
            show _ = _
            rw [wokE, hwp]; simp [h48, hs]
          clear hwp h6 hd h0 h6'' hhd hl hs
          go_enter Tryz.func130, Tryz.ntmps130
          go_wp2_with (first
            | (go_at_call 165; go_must (refine (Tryz.strings_TrimPrefix _ _ _).mono ?_; rintro e w1 ⟨rfl, rfl⟩; rw [show (#[45] : Array UInt8).toList = [45] from rfl, HT.out]))
            | (go_at_call 167; go_must (refine (Tryz.strings_ContainsFunc 166 #[] (fun _ _ => rfl) noDg _ _ (fun W x _ => other_any x W)).mono ?_; rintro e w2 ⟨rfl, hb2⟩; rw [hix])))
          all_goals first | (exfalso; omega) | (go_ret; exact ⟨by rw [hW.out]; rfl, hb2⟩)
        · have hsI : ¬ 1 < (s.size : Int) := by omega
          have hW : Hid (wokE s = 0) := by
            show _ = _
            rw [wokE, hwp]; simp [h48, hs, hl, hd, h0, h6'']
          clear hwp h6 hd h0 h6'' hhd hl hs
          go_enter Tryz.func130, Tryz.ntmps130
          go_wp2_with (first
            | (go_at_call 165; go_must (refine (Tryz.strings_TrimPrefix _ _ _).mono ?_; rintro e w1 ⟨rfl, rfl⟩; rw [show (#[45] : Array UInt8).toList = [45] from rfl, HT.out]))
            | (go_at_call 167; go_must (refine (Tryz.strings_ContainsFunc 166 #[] (fun _ _ => rfl) noDg _ _ (fun W x _ => other_any x W)).mono ?_; rintro e w2 ⟨rfl, hb2⟩; rw [hix])))
          all_goals first | (exfalso; omega) | (go_ret; exact ⟨by rw [hW.out]; rfl, hb2⟩)
    · have hcI : ¬ ((c.toNat : Int) = 48) := fun e => h48 (UInt8.toNat_inj.1 (by have : (48 : UInt8).toNat = 48 := rfl; omega))
      have hW : Hid (wokE s = 0) := by
        show _ = _
        rw [wokE, hwp]; simp [h48, hd, h0, h6'']
      clear hwp h6 hd h0 h6'' hhd h48
      go_enter Tryz.func130, Tryz.ntmps130
      go_wp2_with (first
        | (go_at_call 165; go_must (refine (Tryz.strings_TrimPrefix _ _ _).mono ?_; rintro e w1 ⟨rfl, rfl⟩; rw [show (#[45] : Array UInt8).toList = [45] from rfl, HT.out]))
        | (go_at_call 167; go_must (refine (Tryz.strings_ContainsFunc 166 #[] (fun _ _ => rfl) noDg _ _ (fun W x _ => other_any x W)).mono ?_; rintro e w2 ⟨rfl, hb2⟩; rw [hix])))
      all_goals first | (exfalso; omega) | (go_ret; exact ⟨by rw [hW.out]; rfl, hb2⟩)
  · have hd' : digs T.data.toList = false := by simpa using hd
    rw [hd'] at hix
    simp only [Bool.not_false] at hix
    have hW : Hid (wokE s = 10) := by
      show _ = _
      rw [wokE, hwp]; simp [hd']
    have h6' : ¬ 600 < (T.size : Int) := by omega
    clear hwp h6 hd hd' h0
    go_enter Tryz.func130, Tryz.ntmps130
    go_wp2_with (first
      | (go_at_call 165; go_must (refine (Tryz.strings_TrimPrefix _ _ _).mono ?_; rintro e w1 ⟨rfl, rfl⟩; rw [show (#[45] : Array UInt8).toList = [45] from rfl, HT.out]))
      | (go_at_call 167; go_must (refine (Tryz.strings_ContainsFunc 166 #[] (fun _ _ => rfl) noDg _ _ (fun W x _ => other_any x W)).mono ?_; rintro e w2 ⟨rfl, hb2⟩; rw [hix])))
    all_goals first | (exfalso; omega) | (go_ret; exact ⟨by rw [hW.out]; rfl, hb2⟩)

end Go.Proofs.YtkajibniibjblaaGreatDoor
