/-
  DERIVED. 'box' and 'Check' of box, of states that may be: the walks.
-/
import Derived.Test.YtaeejmggmgejcaaDoorBoxFind
import Derived.Deep.RegionHeld3
namespace Go.Proofs.YtaeejmggmgejcaaDoor
open Go.RowKit

def lastU (l : List Mail) : Nat → Nat
  | 0 => 0
  | j + 1 => (l[j]?.map Mail.uid).getD 0
theorem mails_at (next : Nat) : ∀ (l : List Mail) (last : Nat), MailsOK next last l → ∀ j (h : j < l.length), (if j = 0 then last else lastU l j) < l[j].uid ∧ l[j].uid < next ∧ l[j].flags ≤ 31 ∧ l[j].text.length ≤ 2000
  | m :: l, last, ⟨h1, h2, h3, h4, h5⟩, 0, _ => ⟨h1, h2, h3, h4⟩
  | m :: l, last, ⟨h1, h2, h3, h4, h5⟩, j + 1, h => by
    have hj : j < l.length := by simpa using h
    have := mails_at next l m.uid h5 j hj
    rw [if_neg (by omega)]
    show lastU (m :: l) (j + 1) < l[j].uid ∧ _
    cases j with
    | zero => exact this
    | succ j => rw [if_neg (by omega)] at this; exact this
theorem lastU_succ (l : List Mail) (j : Nat) (h : j < l.length) : lastU l (j + 1) = l[j].uid := by
  show (l[j]?.map Mail.uid).getD 0 = _
  rw [List.getElem?_eq_getElem h]; rfl

set_option maxHeartbeats 4000000 in
set_option maxRecDepth 20000 in
theorem box_any (b : Bx) (a : Option Addr) (c : Nat) (F : Dom) (w : World) (h : SAt cMail w F (.slice a b.mails.length c) b.mails) (hok : BoxOK b) :
    Calls Tryd.prog 17 #[.agg #[.string ⟨b.name.toArray⟩, .int .i64 b.next, .slice a b.mails.length c]] w fun e w' => e = .returned (.bool true) ∧ Below w.heap.size w w' := by
  obtain ⟨hn, hx1, hx2, hml, hmo⟩ := hok
  have hnl : b.name.length ≤ 12 := by
    have := hn
    unfold nameCode at this
    split at this
    · cases this
    · omega
  have hN : Hid (∀ w, Calls Tryd.prog 23 #[.string ⟨b.name.toArray⟩] w fun e w' => e = .returned (.int .i64 0) ∧ w = w') := by
    intro w; have := name_list b.name w (by omega); rwa [hn] at this
  have HMO : Hid (∀ j (h : j < b.mails.length), lastU b.mails j < b.mails[j].uid ∧ b.mails[j].uid < b.next ∧ b.mails[j].flags ≤ 31 ∧ b.mails[j].text.length ≤ 2000) := by
    intro j h
    have := mails_at b.next b.mails 0 hmo j h
    cases j with
    | zero => exact this
    | succ j => rw [if_neg (by omega)] at this; exact this
  have hA := ba (Below.refl w.heap.size w) (.cells #[.string ⟨b.name.toArray⟩, .int .i64 b.next, .slice a b.mails.length c] 52)
  have HX := Lib.hid (Has.alloc w [.string ⟨b.name.toArray⟩, .int .i64 b.next, .slice a b.mails.length c] 52)
  have HS := Lib.hid (h.down hA); have HA := Lib.hid hA
  clear h hn hmo hA
  go_enter Tryd.func17, Tryd.ntmps17
  go_wp2_with fail
  refine (hN.out _).mono ?_
  rintro e w1 ⟨rfl, rfl⟩
  go_wp2_with fail
  obtain ⟨W0, hW0⟩ : ∃ W0, W0 = w.alloc (.cells #[.string ⟨b.name.toArray⟩, .int .i64 b.next, .slice a b.mails.length c] 52) := ⟨_, rfl⟩
  rw [← hW0] at HX HS HA ⊢
  clear hW0
  go_loopw [3, 29] (fun n i wr => ∃ j : Nat, j ≤ b.mails.length ∧ i = .int .i64 j ∧ n = .int .i64 (lastU b.mails j : Nat) ∧ Below W0.heap.size W0 wr) (fun _ i _ => b.mails.length - (intOf i).toNat)
  case atStart => exact ⟨0, Nat.zero_le _, rfl, rfl, Below.refl _ _⟩
  case round =>
    obtain ⟨j, hj, rfl, rfl, hb⟩ := hrel
    by_cases hlt : j < b.mails.length
    · obtain ⟨g, off, rfl, hF, hg, m0, m1, m2⟩ := mail_get HS.out hb j hlt
      obtain ⟨k1, k2, k3, k4⟩ := HMO.out j hlt
      have hlu := Lib.hid (lastU_succ b.mails j hlt)
      have hgr : g < wr.heap.size := Nat.lt_of_lt_of_le hg hb.size
      generalize b.mails[j] = m at m0 m1 m2 k1 k2 k3 k4 hlu
      obtain ⟨la, hla⟩ : ∃ la, la = lastU b.mails j := ⟨_, rfl⟩
      rw [← hla] at k1 ⊢
      clear hla
      have hx := HX.out.down hb
      have x1 := moved (hx.1 1 _ rfl) (ba (Below.refl wr.heap.size wr) (.cells #[.int .i64 m.uid, .int .i64 m.flags, .string ⟨m.text.toArray⟩] 54)) (Nat.le_refl _)
      have HB := Lib.hid (ba hb (.cells #[.int .i64 m.uid, .int .i64 m.flags, .string ⟨m.text.toArray⟩] 54))
      have d1 : decide ((m.uid : Int) ≤ la) = false := decide_eq_false (by omega)
      have d2 : decide ((b.next : Int) ≤ m.uid) = false := decide_eq_false (by omega)
      have d3 : decide ((m.flags : Int) < 0) = false := decide_eq_false (by omega)
      have d4 : decide ((31 : Int) < m.flags) = false := decide_eq_false (by omega)
      have d5 : decide ((2000 : Int) < m.text.length) = false := decide_eq_false (by omega)
      clear hx hb
      go_wp2_with fail
      go_roundw
      case rel => exact ⟨j + 1, hlt, by go_num, by rw [hlu.out], HB.out⟩
      case measure => simp [intOf]; omega
    · obtain rfl : j = b.mails.length := by omega
      have HB := Lib.hid (bt HA.out hb)
      clear hb
      go_wp2_with fail
      go_ret
      exact ⟨rfl, HB.out⟩

theorem findB_pre {l : List Bx} (h : l.Pairwise fun a b => a.name ≠ b.name) (j : Nat) (hj : j < l.length) : findB (l.take j) l[j].name = none := by
  unfold findB
  rw [List.findIdx?_eq_none_iff]
  intro x hx
  obtain ⟨i, hi, rfl⟩ := List.getElem_of_mem hx
  rw [List.length_take] at hi
  rw [List.getElem_take]
  have := List.pairwise_iff_getElem.1 h i j (by omega) hj (by omega)
  simpa using this

set_option maxHeartbeats 8000000 in
set_option maxRecDepth 20000 in
theorem checkS_any (s : St) (vB vS : Value) (F : Dom) (m : Int) (w : World) (hB : SAt cBox w F vB s.boxes) (hS : SAt cEnt w F vS s.spool) (hg : GoodS s) (hm : w.cell? ⟨0, 0, none⟩ = some (.int .i64 m)) :
    Calls Tryd.prog 12 #[.agg #[vB, vS]] w fun e w' => e = .returned (.int .i64 0) ∧ Below w.heap.size w w' := by
  obtain ⟨Gb, cb, rfl, hcb⟩ := hB.form
  obtain ⟨Gs, cS, rfl, hcs⟩ := hS.form
  obtain ⟨h1, h2, hok, hnm, hout, hroom⟩ := hg
  have hA := ba (Below.refl w.heap.size w) (.cells #[.slice Gb s.boxes.length cb, .slice Gs s.spool.length cS] 29)
  have HX := Lib.hid (Has.alloc w [.slice Gb s.boxes.length cb, .slice Gs s.spool.length cS] 29)
  have HB := Lib.hid (hB.down hA); have HS := Lib.hid (hS.down hA); have HA := Lib.hid hA
  have HM := Lib.hid (moved hm hA (Nat.le_refl _))
  have HOK := Lib.hid hok; have HNM := Lib.hid hnm; have HOUT := Lib.hid hout
  have hml : Hid (∀ b ∈ s.boxes, b.mails.length ≤ 1000) := fun b hb => by have := (hok b hb).2.2.2.1; omega
  clear hB hS hok hnm hout hm hA
  go_enter Tryd.func12, Tryd.ntmps12
  go_wp2_with fail
  obtain ⟨N, hN⟩ : ∃ N, N = w.heap.size := ⟨_, rfl⟩
  obtain ⟨W0, hW0⟩ : ∃ W0, W0 = w.alloc (.cells #[.slice Gb s.boxes.length cb, .slice Gs s.spool.length cS] 29) := ⟨_, rfl⟩
  rw [← hW0] at HX HB HS HA HM ⊢
  rw [← hN] at HX ⊢
  have hNW : N < W0.heap.size := by rw [hW0, hN]; simp
  clear hW0 hN
  go_loopw [20] (fun i wr => ∃ j : Nat, j ≤ s.boxes.length ∧ i = .int .i64 j ∧ Below W0.heap.size W0 wr) (fun i _ => s.boxes.length - (intOf i).toNat)
  case atStart => exact ⟨0, Nat.zero_le _, rfl, Below.refl _ _⟩
  case round =>
    obtain ⟨j, hj, rfl, hb⟩ := hrel
    by_cases hlt : j < s.boxes.length
    · obtain ⟨g, off, a, c, rfl, hF, hg, hac, hm, c0, c1, c2⟩ := box_get HB.out hb j hlt
      have hbo := HOK.out s.boxes[j] (List.getElem_mem _)
      have hfp := findB_pre HNM.out j hlt
      have hgr : g < wr.heap.size := Nat.lt_of_lt_of_le hg hb.size
      have hjc : j ≤ cb := by omega
      have hFi : Hid (∀ w', Below W0.heap.size W0 w' → Calls Tryd.prog 18 #[.slice (some ⟨g, off, none⟩) j cb, .string ⟨s.boxes[j].name.toArray⟩] w' fun e w'' => e = .returned (.int .i64 (-1)) ∧ Below w'.heap.size w' w'') := by
        intro w' hb'
        have := find_any (.slice (some ⟨g, off, none⟩) j cb) (s.boxes.take j) F s.boxes[j].name w' ((HB.out.down hb').take j cb (by omega) hjc) (by rw [List.length_take]; omega)
        rwa [hfp] at this
      have hBo : Hid (∀ w', Below wr.heap.size wr w' → Calls Tryd.prog 17 #[.agg #[.string ⟨s.boxes[j].name.toArray⟩, .int .i64 s.boxes[j].next, .slice a s.boxes[j].mails.length c]] w' fun e w'' => e = .returned (.bool true) ∧ Below w'.heap.size w' w'') :=
        fun w' hb' => box_any s.boxes[j] a c F w' (hm.down hb') hbo
      clear hfp hbo hm
      generalize s.boxes[j] = b at c0 c1 c2 hFi hBo hac
      have hx := HX.out.down hb
      obtain ⟨x0, x1, -, -⟩ := hx.two
      have hA1 := ba (Below.refl wr.heap.size wr) (.cells #[.string ⟨b.name.toArray⟩, .int .i64 b.next, .slice a b.mails.length c] 52)
      have hr := Has.alloc wr [.string ⟨b.name.toArray⟩, .int .i64 b.next, .slice a b.mails.length c] 52
      have r0 := hr.1 0 _ rfl; have r1 := hr.1 1 _ rfl; have r2 := hr.1 2 _ rfl
      have y0 := moved x0 hA1 (Nat.le_refl _)
      have HBR := Lib.hid hb; have HA1 := Lib.hid hA1
      clear hx hr hA1
      go_upto_region 6 with fail
      clear c0 c1 c2 x0 x1 hb
      obtain ⟨W1, hW1⟩ : ∃ W1, W1 = wr.alloc (.cells #[.string ⟨b.name.toArray⟩, .int .i64 b.next, .slice a b.mails.length c] 52) := ⟨_, rfl⟩
      obtain ⟨R, hR⟩ : ∃ R, R = wr.heap.size := ⟨_, rfl⟩
      rw [← hW1] at r0 r1 r2 y0 HA1 ⊢
      rw [← hR] at r0 r1 r2 ⊢
      have hdr := Below.drew (Below.refl W1.heap.size W1)
      clear hW1 hR
      go_region_held3 (fun w' => w'.cell? ⟨R, 0, none⟩ = some (.string ⟨b.name.toArray⟩) ∧ w'.cell? ⟨R, 1, none⟩ = some (.int .i64 b.next) ∧ w'.cell? ⟨R, 2, none⟩ = some (.slice a b.mails.length c) ∧ w'.cell? ⟨N, 0, none⟩ = some (.slice (some ⟨g, off, none⟩) s.boxes.length cb)) (first | exact ⟨r0, r1, r2, y0⟩ | exact ⟨r0', r1', r2', y0'⟩ | exact ⟨r0'', r1'', r2'', y0''⟩) (first
        | (go_at_call 17; refine (hBo.out _ (bt HA1.out hdr)).mono ?_; rintro e w3 ⟨rfl, hb3⟩; have r0' := moved (w := W1.drew) r0 hb3 (Nat.le_refl _); have r1' := moved (w := W1.drew) r1 hb3 (Nat.le_refl _); have r2' := moved (w := W1.drew) r2 hb3 (Nat.le_refl _); have y0' := moved (w := W1.drew) y0 hb3 (Nat.le_refl _))
        | (go_at_call 18; refine (hFi.out _ (bt (bt (bt HBR.out HA1.out) hdr) hb3)).mono ?_; rintro e w4 ⟨rfl, hb4⟩; have r0'' := moved r0' hb4 (Nat.le_refl _); have r1'' := moved r1' hb4 (Nat.le_refl _); have r2'' := moved r2' hb4 (Nat.le_refl _); have y0'' := moved y0' hb4 (Nat.le_refl _)))
      all_goals
        have HB4 := Lib.hid (bt (bt (bt (bt HBR.out HA1.out) hdr) hb3) hb4)
        clear r0 r1 r2 y0 r0' r1' r2' y0' r0'' r1'' r2'' y0'' hb3 hb4 hdr
        go_wp2_with fail
        go_roundw
        case rel => exact ⟨j + 1, hlt, by go_num, HB4.out⟩
        case measure => simp [intOf]; omega
    · obtain rfl : j = s.boxes.length := by omega
      obtain ⟨wo, rfl⟩ : ∃ wo : World, wo = wr := ⟨_, rfl⟩
      obtain ⟨x0, x1, -, -⟩ := (HX.out.down hb).two
      have HBO := Lib.hid hb
      clear hb
      go_wp2_with fail
      clear x0 x1
      go_loopw [42] (fun i wr => ∃ j : Nat, j ≤ s.spool.length ∧ i = .int .i64 j ∧ Below W0.heap.size W0 wr) (fun i _ => s.spool.length - (intOf i).toNat)
      case atStart => exact ⟨0, Nat.zero_le _, rfl, HBO.out⟩
      case round =>
        obtain ⟨k, hk, rfl, hb⟩ := hrel
        by_cases hlk : k < s.spool.length
        · obtain ⟨g, off, rfl, hF, hg, m0, m1, m2, m3, m4, m5⟩ := ent_get HS.out hb k hlk
          obtain ⟨hk6, hfm⟩ := HOUT.out s.spool[k] (List.getElem_mem _)
          have hgr : g < wr.heap.size := Nat.lt_of_lt_of_le hg hb.size
          generalize s.spool[k] = x at m0 m1 m2 m3 m4 m5 hk6 hfm
          obtain ⟨f1, f2, f3, f4, f5, f6⟩ := small_of_form hfm
          have hFm : Hid (∀ w', Below W0.heap.size W0 w' → Calls Tryd.prog 14 #[.agg #[.int .i64 x.kind, .string ⟨x.box.toArray⟩, .int .i64 x.uid, .int .i64 x.flags, .string ⟨x.to.toArray⟩, .string ⟨x.text.toArray⟩]] w' fun e w'' => e = .returned (.int .i64 0) ∧ Below w'.heap.size w' w'') := by
            intro w' hb'
            have := form_any x m w' (by omega) (by omega) (by omega) (by omega) (by omega) (by omega) (moved HM.out hb' (Nat.le_refl _))
            rwa [hfm] at this
          have q6 : ((x.kind : Int) == 6) = true := by simp; omega
          have q6' : ((x.kind : Int) != 6) = false := by simp; omega
          have HB := Lib.hid (ba hb (.cells #[.int .i64 x.kind, .string ⟨x.box.toArray⟩, .int .i64 x.uid, .int .i64 x.flags, .string ⟨x.to.toArray⟩, .string ⟨x.text.toArray⟩] 44))
          clear hb hfm f1 f2 f3 f4 f5 f6 hk6
          go_wp2_with fail
          refine (hFm.out _ HB.out).mono ?_
          rintro e w3 ⟨rfl, hb3⟩
          have HB3 := Lib.hid (bt HB.out hb3)
          clear hb3 m0 m1 m2 m3 m4 m5
          go_wp2_with fail
          go_roundw
          case rel => exact ⟨k + 1, hlk, by go_num, HB3.out⟩
          case measure => simp [intOf]; omega
        · obtain rfl : k = s.spool.length := by omega
          have hSz := Lib.hid (bsize_any (.slice Gb s.boxes.length cb) Gs s.spool.length cS s.boxes F wr (HB.out.down hb) (by omega) hml.out (by omega))
          obtain ⟨x0, x1, -, -⟩ := (HX.out.down hb).two
          have HBO2 := Lib.hid (bt HA.out hb)
          obtain ⟨q, hq⟩ : ∃ q, q = sumB s.boxes := ⟨_, rfl⟩
          rw [← hq] at hSz hroom
          clear hb hq
          go_wp2_with fail
          refine hSz.out.mono ?_
          rintro e w3 ⟨rfl, hb3⟩
          have HB3 := Lib.hid (bt HBO2.out hb3)
          clear hb3 x0 x1
          go_wp2_with fail
          go_ret
          exact ⟨rfl, HB3.out⟩
end Go.Proofs.YtaeejmggmgejcaaDoor
