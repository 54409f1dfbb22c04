/-
  DERIVED. 'word' of postroomkeep, 'atom' and 'dotted' of who: what each answers.
-/
import Derived.Test.YtlgbmnmoobpkkaaDoorBase
import Derived.Test.YtlgbmnmoobpkkaaDoorKit
import Derived.Test.YtlgbmnmoobpkkaaDoorShelf
import Derived.Lib.IndexLaws
namespace Go.Proofs.YtlgbmnmoobpkkaaDoor
open Go.RowKit

/-- a byte as a small letter -/
def lowB (c : UInt8) : UInt8 := 97 + c % 26
theorem lowB_nat (c : UInt8) : (97 : Int) + (c.toNat : Int) % 26 = ((lowB c).toNat : Int) := by
  have h : (lowB c).toNat = 97 + c.toNat % 26 := by
    unfold lowB
    rw [UInt8.toNat_add, UInt8.toNat_mod]
    have : c.toNat % 26 < 26 := Nat.mod_lt _ (by decide)
    simp only [UInt8.reduceToNat]
    omega
  omega
def wordL (l : List UInt8) : List UInt8 := if l.isEmpty then [120] else (l.take 8).map lowB

theorem low_take (l : List UInt8) (k : Nat) (h : k < l.length) : (l.take (k + 1)).map lowB = (l.take k).map lowB ++ [lowB l[k]] := by
  rw [List.take_succ_eq_append_getElem h, List.map_append]; rfl

theorem ownB_nil {w : World} {b e : Nat} {v : Value} (h : OwnB w b e v []) : v = .slice none 0 0 ∨ ∃ g cap, v = .slice (some ⟨g, 0, none⟩) 0 cap := by
  rcases h.2 with ⟨h1, h2⟩ | ⟨g, cap, _, h1, _⟩
  · exact .inl h1
  · exact .inr ⟨g, cap, h1⟩
theorem ownB_form {w : World} {b e : Nat} {v : Value} {l : List UInt8} (h : OwnB w b e v l) (hl : 1 ≤ l.length) : ∃ g cap, v = .slice (some ⟨g, 0, none⟩) l.length cap := by
  rcases h.2 with ⟨h1, h2⟩ | ⟨g, cap, _, h1, _⟩
  · omega
  · exact ⟨g, cap, h1⟩

set_option maxHeartbeats 400000 in
set_option maxRecDepth 20000 in
theorem word_any (s : ByteArray) (w : World) (hs : s.size ≤ 9223372036854775807) :
    Calls Tryd.prog 66 #[.string s] w fun e w' => e = .returned (.string ⟨(wordL s.data.toList).toArray⟩) ∧ Below w.heap.size w w' := by
  obtain ⟨i0, hi, hz0, hz1, hz2⟩ := info_parts infoU8
  have hI := Lib.hid hi; have hZ0 := Lib.hid hz0; have hZ1 := Lib.hid hz1; have hZ2 := Lib.hid hz2
  clear hi hz0 hz1 hz2
  go_enter Tryd.func66, Tryd.ntmps66
  go_wp2
  go_loopw [3, 4] (fun v i wr => ∃ k : Nat, k ≤ s.size ∧ k ≤ 8 ∧ i = .int .i64 k ∧ OwnB wr w.heap.size 5 v ((s.data.toList.take k).map lowB) ∧ Below w.heap.size w wr) (fun _ i _ => 8 - (intOf i).toNat)
  case atStart => exact ⟨0, Nat.zero_le _, by omega, rfl, World.ownsRow_nil _ _ _ _, Below.refl _ _⟩
  case round =>
    obtain ⟨k, hk, hk8, rfl, hown, hb⟩ := hrel
    have hsz : w.heap.size ≤ wr.heap.size := hb.size
    by_cases hlt : k < s.size ∧ k < 8
    · obtain ⟨h1, h2⟩ := hlt
      have HT := Lib.hid (low_take s.data.toList k (by simpa using h1))
      have HE : Hid (s.data.toList[k]'(by simpa using h1) = s[k]) := rfl
      have hLl : ((s.data.toList.take k).map lowB).length ≤ 8 := by rw [List.length_map]; have := List.length_take_le k s.data.toList; omega
      obtain ⟨L, hL⟩ : ∃ L, L = (s.data.toList.take k).map lowB := ⟨_, rfl⟩
      rw [← hL] at hown hLl
      have HL := Lib.hid hL; clear hL
      have hlow := Lib.hid (lowB_nat s[k])

      go_wp2_with (at_builtin; refine wpList_append_own _ rfl _ _ 93 rfl w.heap.size 5 i0 (.int .u8 0) 1 1 Tryd.underlying93 hI.out hZ0.out hZ1.out hZ2.out rfl (by decide) u3 L.length (bcells L) rfl (hown.alloc _) ⟨wr.heap.size, 0, none⟩ 1 1 [.int .u8 (97 + (s[k].toNat : Int) % 26)] rfl rfl (cell_one_new _ _ _) ?c2 ?c3 ?c4 ?c5 ?_)
      case c2 => intro u hu; simp at hu; subst hu; rfl
      case c3 => unfold maxLen; omega
      case c4 => omega
      case c5 => simp; omega
      intro v' w1 hown' hgrow _
      have hb1 := (hb.alloc hsz _).grown hgrow (by simp; omega) (fun k' h => (hown.lt k' h).1)
      have hown1 : OwnB w1 w.heap.size 5 v' ((s.data.toList.take (k + 1)).map lowB) := by
        unfold OwnB
        rw [HT.out, bcells_append, ← HL.out, List.length_append]
        rw [hlow.out] at hown'
        exact hown'
      clear hown' hgrow
      go_wp2
      go_roundw
      case rel => exact ⟨k + 1, by omega, by omega, by go_num, hown1, hb1⟩
      case measure => simp [intOf]; omega
    · cases hl : s.data.toList with
      | nil =>
        have h0 : s.size = 0 := by
          have : s.data.toList.length = 0 := by rw [hl]; rfl
          simpa using this
        obtain rfl : k = 0 := by omega
        have hown1 : OwnB wr w.heap.size 5 u3 [] := by rw [hl] at hown; exact hown
        have HW : Hid (wordL s.data.toList = [120]) := by unfold Hid; rw [hl]; rfl
        clear hl hown
        rcases ownB_nil hown1 with rfl | ⟨g, cap, rfl⟩
        all_goals
          go_wp2
          go_ret
          exact ⟨by rw [HW.out]; rfl, hb⟩
      | cons c r =>
        have h0 : 1 ≤ s.size := by
          have : s.data.toList.length = r.length + 1 := by rw [hl]; rfl
          have h2 : s.data.toList.length = s.size := by simp
          omega
        have HW : Hid (wordL s.data.toList = (s.data.toList.take k).map lowB) := by
          unfold Hid wordL
          rw [if_neg (by rw [hl]; simp)]
          by_cases h8 : k = 8
          · rw [h8]
          · have hk2 : s.size = k := by omega
            rw [List.take_of_length_le (by simp; omega), List.take_of_length_le (by simp; omega)]
        obtain ⟨L, hL⟩ : ∃ L, L = (s.data.toList.take k).map lowB := ⟨_, rfl⟩
        have hlen : L.length = k := by rw [hL, List.length_map, List.length_take]; simp; omega
        have HLn := Lib.hid hlen
        rw [← hL] at hown
        have HL := Lib.hid hL
        have h1 : 1 ≤ L.length := by omega
        have hneg : ((L.length : Int) == 0) = false := beq_eq_false_iff_ne.2 (by omega)
        obtain ⟨g, cap, rfl⟩ := ownB_form hown h1
        have hcv := run_str_own hown Tryd.underlying93 Tryd.underlying5 Tryd.underlying9
        clear hl hL hlen
        by_cases hks : k < s.size
        · have hd : decide (k < 8) = false := by simp; omega
          go_wp2
          go_ret
          exact ⟨by rw [HW.out, ← HL.out]; rfl, hb⟩
        · have hd : decide (k < s.size) = false := by simpa using hks
          go_wp2
          go_ret
          exact ⟨by rw [HW.out, ← HL.out]; rfl, hb⟩
end Go.Proofs.YtlgbmnmoobpkkaaDoor
