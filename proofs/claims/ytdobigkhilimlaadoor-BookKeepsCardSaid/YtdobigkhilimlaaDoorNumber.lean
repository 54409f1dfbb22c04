/-
  DERIVED. 'number' of book's reader: the walk.
-/
import Derived.Test.YtdobigkhilimlaaDoorTake
import Derived.Laws.BitsLemmas
import Derived.IntWalk
namespace Go.Proofs.YtdobigkhilimlaaDoor
open Go.RowKit

theorem takeL_len (n : Nat) (r : Left) : (takeL n r).1.length ≤ n := by
  cases r with
  | none => exact Nat.zero_le _
  | some l =>
    show (if l.length < n then (([], none) : List UInt8 × Left) else (l.take n, some (l.drop n))).1.length ≤ n
    split
    · exact Nat.zero_le _
    · rw [List.length_take]; omega

theorem or_byte (N c : Nat) (hN : N < 65536) (hc : c < 256) : bits .or .i64 (wrap64 ((N : Int) * 256)) (c : Int) = ((N * 256 + c : Nat) : Int) := by
  have h1 : wrap64 ((N : Int) * 256) = (N : Int) * 256 := by unfold wrap64; omega
  rw [h1, bits_join .i64 62 (by decide) (fun n h0 h2 => by rw [IntKind.wrap_i64]; omega) 8 _ _ (by omega) (by omega) (by omega) (by omega) (by omega) (by omega)]
  omega

set_option maxHeartbeats 4000000 in
set_option maxRecDepth 20000 in
theorem number_any (b : Nat) (r : Left) (k : Nat) (w : World) (hk : k ≤ 3) (h : Rd w b r) :
    Calls Tryd.prog 25 #[.pointer (some ⟨b, 0, none⟩), .int .i64 k] w fun e w' => e = .returned (.int .i64 (numL k r).1) ∧ Rd w' b (numL k r).2 ∧ w.grownBy w' (some b) := by
  have HT := Lib.hid (take_any b r k w (by omega) h)
  have hxl := takeL_len k r
  show Calls Tryd.prog 25 #[.pointer (some ⟨b, 0, none⟩), .int .i64 k] w fun e w' => e = .returned (.int .i64 (numV (takeL k r).1)) ∧ Rd w' b (takeL k r).2 ∧ w.grownBy w' (some b)
  obtain ⟨x, hx⟩ : ∃ x, x = (takeL k r).1 := ⟨_, rfl⟩
  rw [← hx] at HT hxl ⊢
  clear hx h
  go_enter Tryd.func25, Tryd.ntmps25
  go_wp2_with fail
  refine HT.out.mono ?_
  rintro e w1 ⟨⟨v, rfl, a, cap, rfl, hcap, hat, _⟩, hrd, hg⟩
  go_wp2_with fail
  go_loopw [5, 12] (fun n i wr => ∃ j : Nat, j ≤ x.length ∧ i = .int .i64 j ∧ n = .int .i64 (numV (x.take j)) ∧ w1 = wr) (fun _ i _ => x.length - (intOf i).toNat)
  case atStart => exact ⟨0, Nat.zero_le _, rfl, rfl, rfl⟩
  case round =>
    obtain ⟨j, hj, rfl, rfl, rfl⟩ := hrel
    by_cases hlt : j < x.length
    · obtain ⟨g, off, ha, hgl, hc⟩ := hat j x[j] (List.getElem?_eq_getElem hlt)
      subst ha
      have hstep : numV (x.take (j + 1)) = numV (x.take j) * 256 + x[j].toNat := by rw [List.take_succ_eq_append_getElem hlt, numV_snoc]
      have hbd := numV_lt j (x.take j) (by rw [List.length_take]; omega)
      have hc256 := x[j].toNat_lt
      obtain ⟨c, hcc⟩ : ∃ c, c = x[j] := ⟨_, rfl⟩
      rw [← hcc] at hc hstep hc256
      have hbd2 : numV (x.take j) < 65536 := by
        have : j ≤ 2 := by omega
        have hp : 256 ^ j ≤ 256 ^ 2 := Nat.pow_le_pow_right (by omega) this
        have : (256 : Nat) ^ 2 = 65536 := by decide
        omega
      obtain ⟨N, hN⟩ : ∃ N, N = numV (x.take j) := ⟨_, rfl⟩
      rw [← hN] at hstep hbd2
      have hor := or_byte N c.toNat hbd2 (by omega)
      rw [← hstep, hN] at hor
      have HOR := Lib.hid hor
      clear hstep hcc hbd hN hor
      go_wp2_with fail
      go_roundw
      case rel => exact ⟨j + 1, by omega, by go_num, by rw [HOR.out], trivial⟩
      case measure => simp [intOf]; omega
    · obtain rfl : j = x.length := by omega
      have hall : x.take x.length = x := List.take_length
      go_wp2_with fail
      go_ret
      exact ⟨by rw [hall]; rfl, hrd, hg⟩
end Go.Proofs.YtdobigkhilimlaaDoor
