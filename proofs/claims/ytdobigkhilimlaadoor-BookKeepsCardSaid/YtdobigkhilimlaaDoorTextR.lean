/-
  DERIVED. 'text' of book's reader: the walk.
-/
import Derived.Test.YtdobigkhilimlaaDoorNumber
namespace Go.Proofs.YtdobigkhilimlaaDoor
open Go.RowKit

theorem conv_bytes {w : World} {v : Value} {x : List UInt8} (h : Bytes w v x) : (convert 27 9 v).run Tryd.prog w = .ok (.string ⟨x.toArray⟩) w := by
  obtain ⟨a, cap, rfl, _, hat, _⟩ := h
  cases a with
  | none =>
    cases x with
    | nil => exact run_convert_bytes_nil (P := Tryd.prog) w _ _ Tryd.underlying27 Tryd.underlying5 0 cap _ Tryd.underlying9
    | cons c l =>
      obtain ⟨g, off, ha, _⟩ := hat 0 c rfl
      cases ha
  | some A =>
    refine run_convert_bytes_back w _ _ _ A cap x Tryd.underlying27 Tryd.underlying5 Tryd.underlying9 ?_
    intro j hj
    obtain ⟨g, off, ha, _, hc⟩ := hat j x[j] (List.getElem?_eq_getElem hj)
    obtain rfl := Option.some.inj ha
    rw [Addr.add_lit]
    exact hc
theorem num2_lt (r : Left) : (numL 2 r).1 < 65536 := by
  have h := takeL_len 2 r
  have h2 := numV_lt (takeL 2 r).1.length (takeL 2 r).1 rfl
  have hp : 256 ^ (takeL 2 r).1.length ≤ 256 ^ 2 := Nat.pow_le_pow_right (by omega) h
  have : (256 : Nat) ^ 2 = 65536 := by decide
  show numV (takeL 2 r).1 < 65536
  omega

set_option maxHeartbeats 4000000 in
set_option maxRecDepth 20000 in
theorem textR_any (b : Nat) (r : Left) (w : World) (h : Rd w b r) :
    Calls Tryd.prog 26 #[.pointer (some ⟨b, 0, none⟩)] w fun e w' => e = .returned (.string ⟨(textL r).1.toArray⟩) ∧ Rd w' b (textL r).2 ∧ w.grownBy w' (some b) := by
  have HN := Lib.hid (number_any b r 2 w (by omega) h)
  have hn := num2_lt r
  show Calls Tryd.prog 26 #[.pointer (some ⟨b, 0, none⟩)] w fun e w' => e = .returned (.string ⟨(takeL (numL 2 r).1 (numL 2 r).2).1.toArray⟩) ∧ Rd w' b (takeL (numL 2 r).1 (numL 2 r).2).2 ∧ w.grownBy w' (some b)
  obtain ⟨n, hnn⟩ : ∃ n, n = (numL 2 r).1 := ⟨_, rfl⟩
  obtain ⟨q, hq⟩ : ∃ q, q = (numL 2 r).2 := ⟨_, rfl⟩
  rw [← hnn, ← hq] at HN ⊢
  rw [← hnn] at hn
  have HT : Hid (∀ w, Rd w b q → Calls Tryd.prog 29 #[.pointer (some ⟨b, 0, none⟩), .int .i64 n] w fun e w' => (∃ v, e = .returned v ∧ Bytes w' v (takeL n q).1) ∧ Rd w' b (takeL n q).2 ∧ w.grownBy w' (some b)) := fun w h => take_any b q n w (by omega) h
  obtain ⟨x, hx⟩ : ∃ x, x = (takeL n q).1 := ⟨_, rfl⟩
  rw [← hx] at HT ⊢
  clear hx hq hnn h
  go_enter Tryd.func26, Tryd.ntmps26
  go_wp2_with fail
  refine HN.out.mono ?_
  rintro e w1 ⟨rfl, hrd, hg⟩
  go_wp2_with fail
  refine (HT.out _ hrd).mono ?_
  rintro e w2 ⟨⟨v, rfl, hv⟩, hrd2, hg2⟩
  have hcv := conv_bytes hv
  go_wp2_with fail
  go_ret
  exact ⟨rfl, hrd2, Go.Lib.grownBy_trans hg hg2⟩
end Go.Proofs.YtdobigkhilimlaaDoor
