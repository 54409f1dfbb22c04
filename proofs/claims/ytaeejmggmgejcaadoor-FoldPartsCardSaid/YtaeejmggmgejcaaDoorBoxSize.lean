/-
  DERIVED. 'size' of box, and 'find': the walks.
-/
import Derived.Test.YtaeejmggmgejcaaDoorBoxMem
namespace Go.Proofs.YtaeejmggmgejcaaDoor
open Go.RowKit

set_option maxHeartbeats 4000000 in
set_option maxRecDepth 20000 in
theorem bsize_any (v : Value) (a' : Option Addr) (n' c' : Nat) (l : List Bx) (F : Dom) (w : World) (h : SAt cBox w F v l) (hl : l.length ≤ 1000) (hm : ∀ b ∈ l, b.mails.length ≤ 1000) (hs : sumB l ≤ 1000000) :
    Calls Tryd.prog 19 #[.agg #[v, .slice a' n' c']] w fun e w' => e = .returned (.int .i64 (sumB l)) ∧ Below w.heap.size w w' := by
  obtain ⟨G, cap, rfl, hcap⟩ := h.form
  have H := Lib.hid h; have HM := Lib.hid hm
  clear h hm
  go_enter Tryd.func19, Tryd.ntmps19
  go_wp2_with fail
  go_loopw [3, 11] (fun n i wr => ∃ j : Nat, j ≤ l.length ∧ i = .int .i64 j ∧ n = .int .i64 (sumB (l.take j) : Nat) ∧ Below w.heap.size w wr) (fun _ i _ => l.length - (intOf i).toNat)
  case atStart => exact ⟨0, Nat.zero_le _, rfl, rfl, ba (Below.refl _ _) _⟩
  case round =>
    obtain ⟨wo, rfl⟩ : ∃ wo : World, wo = wr := ⟨_, rfl⟩
    obtain ⟨j, hj, rfl, rfl, hb⟩ := hrel
    by_cases hlt : j < l.length
    · obtain ⟨g, off, a, c, rfl, hF, hg, hac, hm, c0, c1, c2⟩ := box_get H.out hb j hlt
      have hst := sumB_take l j hlt
      have hle := sumB_le l (j + 1)
      have hml := HM.out l[j] (List.getElem_mem _)
      generalize l[j] = b at hac hm c0 c1 c2 hst hml
      have hgr : g < wo.heap.size := Nat.lt_of_lt_of_le hg hb.size
      have hA := ba (Below.refl wo.heap.size wo) (.cells #[.string ⟨b.name.toArray⟩, .int .i64 b.next, .slice a b.mails.length c] 52)
      have HB := Lib.hid (bt hb hA)
      have HMS := Lib.hid (hm.down hA)
      have HST := Lib.hid hst
      obtain ⟨S, hS⟩ : ∃ S, S = sumB (l.take j) := ⟨_, rfl⟩
      rw [← hS] at HST ⊢
      have HSM : S + sumM b.mails ≤ 1000000 := by have := HST.out; omega
      clear hS hst hA hb hm
      go_wp2_with fail
      obtain ⟨W0, hW0⟩ : ∃ W0, W0 = wo.alloc (.cells #[.string ⟨b.name.toArray⟩, .int .i64 b.next, .slice a b.mails.length c] 52) := ⟨_, rfl⟩
      rw [← hW0] at HB HMS ⊢
      clear hW0 c0 c1 c2
      go_loopw [3, 18] (fun n i wx => ∃ k : Nat, k ≤ b.mails.length ∧ i = .int .i64 k ∧ n = .int .i64 (S + sumM (b.mails.take k) : Nat) ∧ Below W0.heap.size W0 wx) (fun _ i _ => b.mails.length - (intOf i).toNat)
      case atStart => exact ⟨0, Nat.zero_le _, rfl, rfl, Below.refl _ _⟩
      case round =>
        obtain ⟨k, hk, rfl, rfl, hbx⟩ := hrel
        by_cases hlk : k < b.mails.length
        · obtain ⟨gm, om, rfl, _, hgm, m0, m1, m2⟩ := mail_get HMS.out hbx k hlk
          have hst := sumM_take b.mails k hlk
          have hle := sumM_le b.mails (k + 1)
          have hgx : gm < wr.heap.size := Nat.lt_of_lt_of_le hgm hbx.size
          generalize b.mails[k] = m at m0 m1 m2 hst
          have HST2 := Lib.hid hst; have HBX := Lib.hid hbx
          have hTb : sumM (b.mails.take k) + m.text.length ≤ 1000000 := by omega
          obtain ⟨T, hT⟩ : ∃ T, T = sumM (b.mails.take k) := ⟨_, rfl⟩
          rw [← hT] at HST2 hTb ⊢
          have hSTm : S + T + m.text.length ≤ 3000000 := by omega
          clear hst hbx hT
          go_wp2_with fail
          go_roundw
          case rel => exact ⟨k + 1, hlk, by go_num, by rw [HST2.out]; go_num, ba HBX.out _⟩
          case measure => simp [intOf]; omega
        · obtain rfl : k = b.mails.length := by omega
          rw [List.take_length]
          have hbw := bt HB.out hbx
          have HBW := Lib.hid hbw
          clear hbw hbx
          go_wp2_with fail
          go_roundw
          case rel => exact ⟨j + 1, hlt, by go_num, by rw [HST.out], HBW.out⟩
          case measure => simp [intOf]; omega
    · obtain rfl : j = l.length := by omega
      rw [List.take_length]
      go_wp2_with fail
      go_ret
      exact ⟨rfl, hb⟩
end Go.Proofs.YtaeejmggmgejcaaDoor
