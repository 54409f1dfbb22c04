/-
  DERIVED. 'cut', 'masked' of postroomkeep, 'Fold' of glob: what each answers.
-/
import Derived.Test.YtlghlcekakbmnaaGlob
import Derived.OwnWalk
import Derived.Lib.Strings
namespace Go.Proofs.Ytlghlcekakbmnaa
open Go.RowKit

theorem extract_take (s : ByteArray) (n : Nat) : s.extract 0 n = ⟨(s.data.toList.take n).toArray⟩ := by
  rw [Lib.extract_eq]; simp

set_option maxHeartbeats 400000 in
theorem cut_any (s : ByteArray) (m : Int) (w : World) (_hs : s.size ≤ 9223372036854775807) (h0 : 0 ≤ m) (h1 : m ≤ 9223372036854775807) :
    Calls Try.prog 13 #[.string s, .int .i64 m] w fun e w' => e = .returned (.string ⟨(s.data.toList.take m.toNat).toArray⟩) ∧ w = w' := by
  obtain ⟨n, rfl⟩ := Int.eq_ofNat_of_zero_le h0
  rw [Int.toNat_natCast]
  have H := Lib.hid (extract_take s)
  by_cases h : n < s.size
  · go_enter Try.func13, Try.ntmps13
    go_wp2
    go_ret
    exact ⟨congrArg (fun b => Ending.returned (Value.string b)) (H.out n), rfl⟩
  · have HS : Hid (s = ⟨(s.data.toList.take n).toArray⟩) := by
      rw [List.take_of_length_le (by simp; omega)]; exact (Lib.mk_data s).symm
    go_enter Try.func13, Try.ntmps13
    go_wp2
    go_ret
    exact ⟨congrArg (fun b => Ending.returned (Value.string b)) HS.out, rfl⟩

/-- each byte behind a backslash -/
def maskL (l : List UInt8) : List UInt8 := l.flatMap fun c => [92, c]
theorem maskL_length (l : List UInt8) : (maskL l).length = 2 * l.length := by
  induction l with
  | nil => rfl
  | cons a l ih => simp only [maskL, List.flatMap_cons, List.length_append, List.length_cons, List.length_nil] at ih ⊢; omega
theorem maskL_snoc (l : List UInt8) (c : UInt8) : maskL (l ++ [c]) = maskL l ++ [92, c] := by simp [maskL]
theorem maskL_take (l : List UInt8) (k : Nat) (h : k < l.length) : maskL (l.take (k + 1)) = maskL (l.take k) ++ [92, l[k]] := by
  rw [List.take_succ_eq_append_getElem h, maskL_snoc]

set_option maxHeartbeats 400000 in
theorem masked_any (s : ByteArray) (w : World) (hs : s.size ≤ 1000000) :
    Calls Try.prog 14 #[.string s] w fun e w' => e = .returned (.string ⟨(maskL s.data.toList).toArray⟩) ∧ Below w.heap.size w w' := by
  obtain ⟨i0, hi, hz0, hz1, hz2⟩ := info_parts infoU8
  have hI := Lib.hid hi; have hZ0 := Lib.hid hz0; have hZ1 := Lib.hid hz1; have hZ2 := Lib.hid hz2
  clear hi hz0 hz1 hz2
  go_enter Try.func14, Try.ntmps14
  go_wp2
  go_loopw [3, 4] (fun v i wr => ∃ k : Nat, k ≤ s.size ∧ i = .int .i64 k ∧ OwnB wr w.heap.size 5 v (maskL (s.data.toList.take k)) ∧ Below w.heap.size w wr) (fun _ i _ => s.size - (intOf i).toNat)
  case atStart => exact ⟨0, Nat.zero_le _, rfl, World.ownsRow_nil _ _ _ _, Below.refl _ _⟩
  case round =>
    obtain ⟨k, hk, rfl, hown, hb⟩ := hrel
    have hsz : w.heap.size ≤ wr.heap.size := hb.size
    by_cases hlt : k < s.size
    · have hml := maskL_length (s.data.toList.take k)
      have hml2 : (maskL (s.data.toList.take k)).length ≤ 2 * k := by have := List.length_take_le k s.data.toList; omega
      have HT := Lib.hid (maskL_take s.data.toList k (by simpa using hlt))
      have HE : Hid (s.data.toList[k]'(by simpa using hlt) = s[k]) := rfl
      clear hml
      obtain ⟨L, hL⟩ : ∃ L, L = maskL (s.data.toList.take k) := ⟨_, rfl⟩
      rw [← hL] at hown hml2
      have HL := Lib.hid hL; clear hL
      go_wp2_with (at_builtin; refine wpList_append_own _ rfl _ _ 23 rfl w.heap.size 5 i0 (.int .u8 0) 1 1 Try.underlying23 hI.out hZ0.out hZ1.out hZ2.out rfl (by decide) u3 L.length (bcells L) rfl (hown.alloc _) ⟨wr.heap.size, 0, none⟩ 2 2 [.int .u8 92, .int .u8 (s[k].toNat : Int)] rfl rfl (cell_two_new _ _ _ _) ?c2 ?c3 ?c4 ?c5 ?_)
      case c2 => intro u hu; simp at hu; rcases hu with rfl | rfl <;> rfl
      case c3 => unfold maxLen; omega
      case c4 => omega
      case c5 => simp; omega
      intro v' w1 hown' hgrow _
      have hb1 := (hb.alloc hsz _).grown hgrow (by simp; omega) (fun k' h => (hown.lt k' h).1)
      have hown1 : OwnB w1 w.heap.size 5 v' (maskL (s.data.toList.take (k + 1))) := by
        unfold OwnB
        rw [HT.out, bcells_append, ← HL.out, List.length_append]
        exact hown'
      clear hown' hgrow
      go_wp2
      go_roundw
      case rel => exact ⟨k + 1, by omega, by go_num, hown1, hb1⟩
      case measure => simp [intOf]; omega
    · have hown1 : OwnB wr w.heap.size 5 u3 (maskL s.data.toList) := by
        rw [List.take_of_length_le (by simp; omega)] at hown; exact hown
      have hcv := run_str_own hown1 Try.underlying23 Try.underlying5 Try.underlying9
      go_wp2
      go_ret
      exact ⟨rfl, hb⟩
end Go.Proofs.Ytlghlcekakbmnaa
