/-
  DERIVED. 'find' and 'sameState' of postroomkeep: the walks.
-/
import Derived.Test.YthllhakgcnfmcaaDoorBoxSize
import Derived.Test.YthllhakgcnfmcaaDoorReader
import Derived.BigQuiet
import Derived.Deep.QuietTactic
namespace Go.Proofs.YthllhakgcnfmcaaDoor
open Go.RowKit

set_option maxHeartbeats 2000000 in
set_option maxRecDepth 20000 in
theorem kfind_any (v : Value) (a' : Option Addr) (n' c' : Nat) (l : List Bx) (F : Dom) (name : List UInt8) (w : World) (h : SAt cBox w F v l) (hl : l.length ≤ 1000) :
    Calls Tryd.prog 15 #[.agg #[v, .slice a' n' c'], .string ⟨name.toArray⟩] w fun e w' => e = .returned (.int .i64 (idx (findB l name))) ∧ Below w.heap.size w w' := by
  obtain ⟨G, cap, rfl, hcap⟩ := h.form
  have HX := Lib.hid (Has.alloc w [.slice G l.length cap, .slice a' n' c'] 28)
  have HA := Lib.hid (ba (Below.refl w.heap.size w) (.cells #[.slice G l.length cap, .slice a' n' c'] 28))
  have H := Lib.hid h
  clear h
  go_enter Tryd.func15, Tryd.ntmps15
  go_wp2_with fail
  obtain ⟨N, hN⟩ : ∃ N, N = w.heap.size := ⟨_, rfl⟩
  obtain ⟨W0, hW0⟩ : ∃ W0, W0 = w.alloc (.cells #[.slice G l.length cap, .slice a' n' c'] 28) := ⟨_, rfl⟩
  rw [← hW0] at HX HA ⊢
  rw [← hN] at HX ⊢
  clear hW0 hN
  obtain ⟨x0, x1, -, -⟩ := HX.out.two
  go_loop [5] (fun i => ∃ j : Nat, j ≤ l.length ∧ i = .int .i64 j ∧ (∀ k (hk : k < l.length), k < j → (l[k].name == name) = false)) (fun i => l.length - (intOf i).toNat)
  case atStart => exact ⟨0, Nat.zero_le _, rfl, fun k _ h => absurd h (Nat.not_lt_zero _)⟩
  case round =>
    obtain ⟨j, hj, rfl, hno⟩ := hrel
    have HNO := Lib.hid hno
    clear hno
    by_cases hlt : j < l.length
    · obtain ⟨g, off, a, c, rfl, hF, hg, hac, hm, c0, c1, c2⟩ := box_get H.out HA.out j hlt
      clear hm
      cases hp : (l[j].name == name) with
      | true =>
        have hfi : Hid (idx (findB l name) = (j : Int)) := by
          have : findB l name = some j := by
            unfold findB
            rw [List.findIdx?_eq_some_iff_getElem]
            exact ⟨hlt, hp, fun k hk => by rw [HNO.out k (by omega) hk]; decide⟩
          unfold Hid; rw [this]; rfl
        clear HNO
        generalize l[j] = b at c0 c1 c2 hp
        go_wp2_with fail
        go_ret
        exact ⟨by rw [hfi.out]; rfl, HA.out⟩
      | false =>
        have hno2 : Hid (∀ k (hk : k < l.length), k < j + 1 → (l[k].name == name) = false) := by
          intro k hk hkj
          rcases Nat.lt_succ_iff_lt_or_eq.1 hkj with h | h
          · exact HNO.out k hk h
          · subst h; exact hp
        clear HNO
        generalize l[j] = b at c0 c1 c2 hp
        go_wp2_with fail
        go_round
        case rel => exact ⟨j + 1, hlt, by go_num, hno2.out⟩
        case measure => simp [intOf]; omega
    · obtain rfl : j = l.length := by omega
      have hfi : Hid (idx (findB l name) = -1) := by
        have : findB l name = none := by
          unfold findB
          rw [List.findIdx?_eq_none_iff]
          intro b hb
          obtain ⟨k, hk, rfl⟩ := List.getElem_of_mem hb
          exact HNO.out k hk hk
        unfold Hid; rw [this]; rfl
      clear HNO
      go_wp2_with fail
      go_ret
      exact ⟨by rw [hfi.out]; rfl, HA.out⟩

set_option maxHeartbeats 8000000 in
set_option maxRecDepth 20000 in
theorem same_any (s : St) (v1 u1 v2 u2 : Value) (F1 F2 : Dom) (w : World) (h1 : SAt cBox w F1 v1 s.boxes) (k1 : SAt cEnt w F1 u1 s.spool) (h2 : SAt cBox w F2 v2 s.boxes) (k2 : SAt cEnt w F2 u2 s.spool) (hl : s.boxes.length ≤ 1000) (hsl : s.spool.length ≤ 1000) (hml : ∀ b ∈ s.boxes, b.mails.length ≤ 1000) :
    Calls Tryd.prog 16 #[.agg #[v1, u1], .agg #[v2, u2]] w fun e w' => e = .returned (.bool true) ∧ Below w.heap.size w w' := by
  obtain ⟨G1, c1, rfl, hc1⟩ := h1.form
  obtain ⟨G2, c2, rfl, hc2⟩ := h2.form
  obtain ⟨D1, d1, rfl, hd1⟩ := k1.form
  obtain ⟨D2, d2, rfl, hd2⟩ := k2.form
  have hA := ba (ba (Below.refl w.heap.size w) (.cells #[.slice G1 s.boxes.length c1, .slice D1 s.spool.length d1] 28)) (.cells #[.slice G2 s.boxes.length c2, .slice D2 s.spool.length d2] 28)
  have hX := (Has.alloc w [.slice G1 s.boxes.length c1, .slice D1 s.spool.length d1] 28).down (ba (Below.refl _ _) (.cells #[.slice G2 s.boxes.length c2, .slice D2 s.spool.length d2] 28))
  have hY := Has.alloc (w.alloc (.cells #[.slice G1 s.boxes.length c1, .slice D1 s.spool.length d1] 28)) [.slice G2 s.boxes.length c2, .slice D2 s.spool.length d2] 28
  simp only [World.size_alloc] at hY
  have H1 := Lib.hid (h1.down hA); have H2 := Lib.hid (h2.down hA); have K1 := Lib.hid (k1.down hA); have K2 := Lib.hid (k2.down hA); have HML := Lib.hid hml
  have HA := Lib.hid hA; have HX := Lib.hid hX; have HY := Lib.hid hY
  clear h1 h2 k1 k2 hml hA hX hY
  go_enter Tryd.func16, Tryd.ntmps16
  go_wp2_with fail
  obtain ⟨W0, hW0⟩ : ∃ W0, W0 = (w.alloc (.cells #[.slice G1 s.boxes.length c1, .slice D1 s.spool.length d1] 28)).alloc (.cells #[.slice G2 s.boxes.length c2, .slice D2 s.spool.length d2] 28) := ⟨_, rfl⟩
  rw [← hW0] at H1 H2 K1 K2 HA HX HY ⊢
  clear hW0
  go_loopw [5] (fun i wr => ∃ j : Nat, j ≤ s.spool.length ∧ i = .int .i64 j ∧ Below W0.heap.size W0 wr) (fun i _ => s.spool.length - (intOf i).toNat)
  case atStart => exact ⟨0, Nat.zero_le _, rfl, Below.refl _ _⟩
  case round =>
    obtain ⟨j, hj, rfl, hb⟩ := hrel
    obtain ⟨x0, x1, -, -⟩ := (HX.out.down hb).two
    obtain ⟨y0, y1, -, -⟩ := (HY.out.down hb).two
    by_cases hlt : j < s.spool.length
    · obtain ⟨g, off, rfl, hF, hg, m0, m1, m2, m3, m4, m5⟩ := ent_get K1.out hb j hlt
      obtain ⟨g', off', rfl, hF', hg', n0, n1, n2, n3, n4, n5⟩ := ent_get K2.out hb j hlt
      generalize s.spool[j] = x at m0 m1 m2 m3 m4 m5 n0 n1 n2 n3 n4 n5
      go_wp2_with fail
      go_quiet (fail)
      have HB := Lib.hid (bt hb (below_drewN wr nq))
      clear x0 x1 y0 y1 m0 m1 m2 m3 m4 m5 n0 n1 n2 n3 n4 n5 hb
      go_wp2_with fail
      go_roundw
      case rel => exact ⟨j + 1, hlt, by go_num, HB.out⟩
      case measure => simp [intOf]; omega
    · obtain rfl : j = s.spool.length := by omega
      obtain ⟨wo, rfl⟩ : ∃ wo : World, wo = wr := ⟨_, rfl⟩
      have HBO := Lib.hid hb
      clear hb
      go_wp2_with fail
      clear x0 x1 y0 y1
      go_loopw [6] (fun i wr => ∃ j : Nat, j ≤ s.boxes.length ∧ i = .int .i64 j ∧ Below W0.heap.size W0 wr) (fun i _ => s.boxes.length - (intOf i).toNat)
      case atStart => exact ⟨0, Nat.zero_le _, rfl, HBO.out⟩
      case round =>
        obtain ⟨wp, rfl⟩ : ∃ wp : World, wp = wr := ⟨_, rfl⟩
        obtain ⟨k, hk, rfl, hb⟩ := hrel
        obtain ⟨x0, x1, -, -⟩ := (HX.out.down hb).two
        obtain ⟨y0, y1, -, -⟩ := (HY.out.down hb).two
        by_cases hlk : k < s.boxes.length
        · obtain ⟨g, off, a, c, rfl, hF, hg, hac, hm, p0, p1, p2⟩ := box_get H1.out hb k hlk
          obtain ⟨g', off', a', c', rfl, hF', hg', hac', hm', q0, q1, q2⟩ := box_get H2.out hb k hlk
          have hmk := HML.out s.boxes[k] (List.getElem_mem _)
          generalize s.boxes[k] = b at hac hm p0 p1 p2 hac' hm' q0 q1 q2 hmk
          have hA1 := ba (Below.refl wp.heap.size wp) (.cells #[.string ⟨b.name.toArray⟩, .int .i64 b.next, .slice a b.mails.length c] 39)
          have hA2 := ba hA1 (.cells #[.string ⟨b.name.toArray⟩, .int .i64 b.next, .slice a' b.mails.length c'] 39)
          have hP := (Has.alloc wp [.string ⟨b.name.toArray⟩, .int .i64 b.next, .slice a b.mails.length c] 39).down (ba (Below.refl _ _) (.cells #[.string ⟨b.name.toArray⟩, .int .i64 b.next, .slice a' b.mails.length c'] 39))
          have hQ := Has.alloc (wp.alloc (.cells #[.string ⟨b.name.toArray⟩, .int .i64 b.next, .slice a b.mails.length c] 39)) [.string ⟨b.name.toArray⟩, .int .i64 b.next, .slice a' b.mails.length c'] 39
          simp only [World.size_alloc] at hQ
          have HP := Lib.hid hP; have HQ := Lib.hid hQ; have HB2 := Lib.hid (bt hb hA2); have HM := Lib.hid (hm.down hA2); have HM' := Lib.hid (hm'.down hA2)
          have q0' := moved q0 hA1 (Nat.le_refl _); have q1' := moved q1 hA1 (Nat.le_refl _); have q2' := moved q2 hA1 (Nat.le_refl _); have y0' := moved y0 hA1 (Nat.le_refl _)
          clear hA1 hA2 hP hQ hb hm hm' q0 q1 q2
          go_wp2_with fail
          obtain ⟨W1, hW1⟩ : ∃ W1, W1 = (wp.alloc (.cells #[.string ⟨b.name.toArray⟩, .int .i64 b.next, .slice a b.mails.length c] 39)).alloc (.cells #[.string ⟨b.name.toArray⟩, .int .i64 b.next, .slice a' b.mails.length c'] 39) := ⟨_, rfl⟩
          rw [← hW1] at HP HQ HB2 HM HM' ⊢
          clear hW1 p0 p1 p2 q0' q1' q2' y0' x0 x1 y0 y1
          go_loopw [9] (fun i wr => ∃ r : Nat, r ≤ b.mails.length ∧ i = .int .i64 r ∧ Below W1.heap.size W1 wr) (fun i _ => b.mails.length - (intOf i).toNat)
          case atStart => exact ⟨0, Nat.zero_le _, rfl, Below.refl _ _⟩
          case round =>
            obtain ⟨r, hr, rfl, hbr⟩ := hrel
            have z2 := (HP.out.down hbr).1 2 _ rfl
            have t2 := (HQ.out.down hbr).1 2 _ rfl
            by_cases hlr : r < b.mails.length
            · obtain ⟨gm, om, rfl, _, hgm, m0, m1, m2⟩ := mail_get HM.out hbr r hlr
              obtain ⟨gn, on, rfl, _, hgn, n0, n1, n2⟩ := mail_get HM'.out hbr r hlr
              generalize b.mails[r] = m at m0 m1 m2 n0 n1 n2
              go_wp2_with fail
              go_quiet (fail)
              have HB := Lib.hid (bt hbr (below_drewN wr nq))
              clear z2 t2 m0 m1 m2 n0 n1 n2 hbr
              go_wp2_with fail
              go_roundw
              case rel => exact ⟨r + 1, hlr, by go_num, HB.out⟩
              case measure => simp [intOf]; omega
            · obtain rfl : r = b.mails.length := by omega
              have HBR := Lib.hid (bt HB2.out hbr)
              clear hbr
              go_wp2_with fail
              go_roundw
              case rel => exact ⟨k + 1, hlk, by go_num, HBR.out⟩
              case measure => simp [intOf]; omega
        · obtain rfl : k = s.boxes.length := by omega
          have HBF := Lib.hid (bt HA.out hb)
          clear hb
          go_wp2_with fail
          go_ret
          exact ⟨rfl, HBF.out⟩
end Go.Proofs.YthllhakgcnfmcaaDoor
