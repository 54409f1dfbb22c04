/-
  DERIVED. 'rcpt' of lmtp's session: the walk.
-/
import Derived.Test.YtdhepaeephmhiaaDoorLmtp4
import Derived.Deep.AppendLies
import Derived.Deep.RegionLaw
namespace Go.Proofs.YtdhepaeephmhiaaDoor
open Go.RowKit
variable {LB : Nat}

theorem news_has {w : World} {b : Nat} {vs : List Value} (h : Has w b vs) : ∀ j u, vs[j]? = some u → w.cell? (Addr.add ⟨b, 0, none⟩ j) = some u := by
  intro j u hj
  rw [Addr.add_lit, Nat.zero_add]
  exact h.1 j u hj
theorem rcpt_done {W4 w5 w : World} (hLB : LB ≤ W4.heap.size) {R g5 cap5 : Nat} {s : Ses} {a : Ad} {L : List Value} {v : Value} (H4 : Has W4 R [.int .i64 3, .string ⟨s.frm.1.toArray⟩, .string ⟨s.frm.2.toArray⟩, v, .string ⟨s.text.toArray⟩, .bool s.large]) (hb5 : Below W4.heap.size W4 w5)
    (hown5 : w5.ownsRow W4.heap.size 44 2 (.slice (some ⟨g5, 0, none⟩) (s.rcp.length + 1) cap5) (s.rcp.length + 1) (L ++ [.string ⟨a.1.toArray⟩, .string ⟨a.2.toArray⟩])) (hL : L = s.rcp.flatMap adC) (HG4 : w.grownBy W4 (some R)) :
    SesPost LB R ⟨3, s.frm, s.rcp ++ [a], s.text, s.large⟩ w (w5.setCell ⟨R, 3, none⟩ (.slice (some ⟨g5, 0, none⟩) (s.rcp.length + 1) cap5)) := by
  have hg : w5.grownBy (w5.setCell ⟨R, 3, none⟩ (.slice (some ⟨g5, 0, none⟩) (s.rcp.length + 1) cap5)) (some R) := Go.Lib.grownBy_setB (World.grownBy.refl w5 (some R)) 3 _
  have hr : SAt cAd w5 (fun b => W4.heap.size ≤ b) (.slice (some ⟨g5, 0, none⟩) (s.rcp.length + 1) cap5) (s.rcp ++ [a]) := by
    refine SAt.of_row (f := adC) (base := W4.heap.size) (e := 44) ?_ (fun b h => h)
    rw [List.length_append, List.length_singleton, List.flatMap_append, ← hL]
    exact hown5
  have hR := H4.2.2
  exact SesPost.of ⟨(H4.down hb5).set' (i := 3) _ (by simp), rcp_kept (hr.mono (fun b (h : _ ≤ b) => ⟨by omega, by omega⟩)) hg⟩ (Go.Lib.grownBy_trans (Go.Lib.grownBy_below HG4 hb5) hg)
def rcptO (s : Ses) (known : List (List UInt8)) (o : Option Ad) : Ses × Int :=
  if s.step ≠ 2 ∧ s.step ≠ 3 then (s, 503) else match o with
    | none => (s, 501)
    | some a => if a.1 ∉ known then (s, 550) else if a ∈ s.rcp then (s, 250) else if s.rcp.length = 5 then (s, 452) else (⟨3, s.frm, s.rcp ++ [a], s.text, s.large⟩, 250)

set_option maxHeartbeats 8000000 in
set_option maxRecDepth 20000 in
theorem rcpt_any (R : Nat) (v : Value) (s : Ses) (S : ByteArray) (vk : Value) (known : List (List UInt8)) (Fk : Dom) (m : Int) (w : World) (h : SesAt LB w R v s) (hk : SAt cStr w Fk vk known) (hkl : known.length ≤ 1000) (h5 : s.rcp.length ≤ 5) (hs : S.size ≤ 2000) (hLB : LB ≤ w.heap.size) (hm : w.cell? ⟨0, 0, none⟩ = some (.int .i64 m)) :
    Calls Tryd.prog 47 #[.pointer (some ⟨R, 0, none⟩), .string S, vk] w fun e w' => e = .returned (.int .i64 (rcptS s S.data.toList known).2) ∧ SesPost LB R (rcptS s S.data.toList known).1 w w' := by
  have HA := Lib.hid (adr_any S m w hs hm)
  have H := Lib.hid h; have HK := Lib.hid hk
  have HO : Hid (rcptS s S.data.toList known = rcptO s known (adrS S.data.toList)) := rfl
  obtain ⟨o, ho⟩ : ∃ o, o = adrS S.data.toList := ⟨_, rfl⟩
  rw [← ho] at HO HA
  have hRz := h.has.2.2
  obtain ⟨Gk, ck, rfl, hck⟩ := hk.form
  obtain ⟨Gv, cv, rfl, hcv⟩ := h.rcp.form
  clear h hm ho hk
  go_enter Tryd.func47, Tryd.ntmps47
  go_wp2_with fail
  refine HA.out.mono ?_
  rintro e w1 ⟨⟨x, y, rfl, hxy⟩, hb1⟩
  have hA1 := bt hb1 (ba (Below.refl w1.heap.size w1) (.cells #[.string x, .string y] 44))
  have H1 := Lib.hid (H.out.down hA1); have HB1 := Lib.hid hA1; have HK1 := Lib.hid (HK.out.down hA1)
  have hR1 : R < w1.heap.size := Nat.lt_of_lt_of_le hRz hb1.size
  obtain ⟨c0, c1, c2, c3, c4, c5⟩ := H1.out.six.six
  obtain ⟨n0, n1, -, -⟩ := (Has.alloc w1 [.string x, .string y] 44).two
  clear hb1 hA1 HA H HK
  by_cases h1 : s.step = 2 ∨ s.step = 3
  · have hor : (s.step = 2 ∧ True) ∨ (s.step = 3 ∧ True) := by rcases h1 with h | h <;> simp [h]
    cases o with
    | none =>
      have HO2 : Hid (rcptS s S.data.toList known = (s, 501)) := by unfold Hid; rw [HO.out]; unfold rcptO; rw [if_neg (by omega)]
      clear HO hxy hor
      rcases h1 with h1 | h1
      all_goals
        rw [h1] at c0
        clear h1
        go_wp2_with fail
        go_ret
        exact ⟨by rw [HO2.out]; rfl, by rw [HO2.out]; exact SesPost.of H1.out (gb HB1.out)⟩
    | some a =>
      obtain ⟨rfl, rfl⟩ := hxy a rfl
      have HO2 : Hid (rcptS s S.data.toList known = if a.1 ∉ known then (s, 550) else if a ∈ s.rcp then (s, 250) else if s.rcp.length = 5 then (s, 452) else (⟨3, s.frm, s.rcp ++ [a], s.text, s.large⟩, 250)) := by unfold Hid; rw [HO.out]; unfold rcptO; rw [if_neg (by omega)]
      clear HO hxy hor
      obtain ⟨W1, hW1⟩ : ∃ W1, W1 = w1.alloc (.cells #[.string ⟨a.1.toArray⟩, .string ⟨a.2.toArray⟩] 44) := ⟨_, rfl⟩
      have hc0 : ∃ z : Int, W1.cell? ⟨R, 0, none⟩ = some (.int .i64 z) ∧ (z = 2 ∨ z = 3) := ⟨s.step, by rw [hW1]; exact c0, by omega⟩
      have HKC : Hid (Calls Tryd.prog 65 #[.slice Gk known.length ck, .string ⟨a.1.toArray⟩] W1 fun e w' => e = .returned (.bool (known.contains a.1)) ∧ Below W1.heap.size W1 w') := by
        unfold Hid; rw [hW1]; exact containsS_any _ known Fk a.1 _ HK1.out hkl
      go_upto_region 2 with fail
      rw [← hW1] at H1 HB1 HK1 n0 n1 c1 c2 c3 c4 c5 ⊢
      clear hW1 c0 h1
      obtain ⟨z, c0, hz⟩ := hc0
      have q : (z != 2 && z != 3) = false := by rcases hz with rfl | rfl <;> decide
      rcases hz with rfl | rfl
      all_goals
        clear q
        go_wp2_with fail
        refine HKC.out.mono ?_
        rintro e w2 ⟨rfl, hb2⟩
        have H2 := Lib.hid (H1.out.down hb2); have HB2 := Lib.hid (bt HB1.out hb2)
        replace n0 := moved n0 hb2 (Nat.le_refl _); replace n1 := moved n1 hb2 (Nat.le_refl _)
        clear hb2 c0 c1 c2 c3 c4 c5 HKC HK1 H1 HB1
        cases hkn : known.contains a.1 with
        | false =>
          have HO3 : Hid (rcptS s S.data.toList known = (s, 550)) := by unfold Hid; rw [HO2.out, if_pos (by rw [← List.contains_iff_mem, hkn]; decide)]
          clear HO2 hkn
          go_wp2_with fail
          go_ret
          exact ⟨by rw [HO3.out]; rfl, by rw [HO3.out]; exact SesPost.of H2.out (gb HB2.out)⟩
        | true =>
          have HO3 : Hid (rcptS s S.data.toList known = if a ∈ s.rcp then (s, 250) else if s.rcp.length = 5 then (s, 452) else (⟨3, s.frm, s.rcp ++ [a], s.text, s.large⟩, 250)) := by unfold Hid; rw [HO2.out, if_neg (by rw [← List.contains_iff_mem, hkn]; decide)]
          clear HO2 hkn
          obtain ⟨-, -, -, c3, -, -⟩ := H2.out.six.six
          have hdr := Below.drew (Below.refl w2.heap.size w2)
          have HCA : Hid (∀ w', Below w2.heap.size w2 w' → Calls Tryd.prog 44 #[.slice Gv s.rcp.length cv, .agg #[.string ⟨a.1.toArray⟩, .string ⟨a.2.toArray⟩]] w' fun e w'' => e = .returned (.bool (s.rcp.contains a)) ∧ Below w'.heap.size w' w'') := fun w' hb => containsA_any _ s.rcp _ a w' (H2.out.rcp.down hb) (by omega)
          go_wp2_with fail
          go_still_tail 6, (by kernel_rfl)
          change wpList _ _ _ _ _ w2.drew
          go_wp2_with fail
          refine (HCA.out _ hdr).mono ?_
          rintro e w3 ⟨rfl, hb3⟩
          have hb23 := bt hdr hb3
          have H3 := Lib.hid (H2.out.down hb23); have HB3 := Lib.hid (bt HB2.out hb23)
          have hz3 : R < w3.heap.size := H3.out.has.2.2
          have HN3 : Hid (w3.cell? ⟨w1.heap.size, 0, none⟩ = some (.string ⟨a.1.toArray⟩) ∧ w3.cell? ⟨w1.heap.size, 1, none⟩ = some (.string ⟨a.2.toArray⟩)) := ⟨moved n0 hb23 (Nat.le_refl _), moved n1 hb23 (Nat.le_refl _)⟩
          have hw13 : w1.heap.size < w3.heap.size := World.block_lt_of_cell? w3 ⟨w1.heap.size, 0, none⟩ HN3.out.1
          clear hdr hb3 hb23 c3 n0 n1 HCA H2 HB2
          obtain ⟨c0, -, -, c3, -, -⟩ := H3.out.six.six
          obtain ⟨f0, -, -, f3, -, -⟩ := H3.out.six.six_free
          cases hcn : s.rcp.contains a with
          | true =>
            have HO4 : Hid (rcptS s S.data.toList known = (s, 250)) := by unfold Hid; rw [HO3.out, if_pos (List.contains_iff_mem.1 hcn)]
            clear HO3 hcn
            go_wp2_with fail
            go_ret
            exact ⟨by rw [HO4.out]; rfl, by rw [HO4.out]; exact SesPost.of H3.out (gb HB3.out)⟩
          | false =>
            have hnm : a ∉ s.rcp := fun h => by rw [List.contains_iff_mem.2 h] at hcn; cases hcn
            by_cases hl5 : s.rcp.length = 5
            · have q5 : ((s.rcp.length : Int) == 5) = true := by rw [hl5]; rfl
              have HO4 : Hid (rcptS s S.data.toList known = (s, 452)) := by unfold Hid; rw [HO3.out, if_neg hnm, if_pos hl5]
              clear HO3 hcn hnm hl5
              go_wp2_with fail
              go_ret
              exact ⟨by rw [HO4.out]; rfl, by rw [HO4.out]; exact SesPost.of H3.out (gb HB3.out)⟩
            · have q5 : ((s.rcp.length : Int) == 5) = false := by simp; omega
              have HO4 : Hid (rcptS s S.data.toList known = (⟨3, s.frm, s.rcp ++ [a], s.text, s.large⟩, 250)) := by unfold Hid; rw [HO3.out, if_neg hnm, if_neg hl5]
              have hn4 : s.rcp.length ≤ 4 := by omega
              clear HO3 hcn hnm hl5
              obtain ⟨W4, hW4⟩ : ∃ W4, W4 = w3.setCell ⟨R, 0, none⟩ (.int .i64 3) := ⟨_, rfl⟩
              have hg4 : w3.grownBy W4 (some R) := by rw [hW4]; exact Go.Lib.grownBy_setB (World.grownBy.refl w3 (some R)) 0 _
              have H4 : Hid (Has W4 R [.int .i64 3, .string ⟨s.frm.1.toArray⟩, .string ⟨s.frm.2.toArray⟩, .slice Gv s.rcp.length cv, .string ⟨s.text.toArray⟩, .bool s.large]) := by unfold Hid; rw [hW4]; exact H3.out.six.set' (i := 0) _ (by simp)
              have HR4 := Lib.hid (rcp_kept H3.out.rcp hg4)
              have HG4 := Lib.hid (Go.Lib.grownBy_trans (gb (R := R) HB3.out) hg4)
              have n0 : W4.cell? ⟨w1.heap.size, 0, none⟩ = some (.string ⟨a.1.toArray⟩) := by rw [hW4]; exact (World.cell?_setCell_other _ _ _ _ (by intro e; have := congrArg Addr.block e; simp at this; omega)).trans HN3.out.1
              have n1 : W4.cell? ⟨w1.heap.size, 1, none⟩ = some (.string ⟨a.2.toArray⟩) := by rw [hW4]; exact (World.cell?_setCell_other _ _ _ _ (by intro e; have := congrArg Addr.block e; simp at this; omega)).trans HN3.out.2
              have hz4 : R < W4.heap.size := H4.out.2.2
              have hw14 : w1.heap.size < W4.heap.size := World.block_lt_of_cell? W4 ⟨w1.heap.size, 0, none⟩ n0
              go_upto_region 13 with fail
              rw [← hW4]
              clear hW4 hg4 c0 c3 f0 f3 HN3 H3 HB3
              obtain ⟨i0, hi0, hz0, hz1, hz2⟩ := info_parts infoAddr
              have HI := Lib.hid hi0; have HZ0 := Lib.hid hz0; have HZ1 := Lib.hid hz1; have HZ2 := Lib.hid hz2
              clear hi0 hz0 hz1 hz2
              obtain ⟨-, -, -, c3, -, -⟩ := H4.out.six
              obtain ⟨-, -, -, f3, -, -⟩ := H4.out.six_free
              have hdr := Below.drew (Below.refl W4.heap.size W4)
              have hda := ba (Below.refl W4.heap.size W4) (.cells #[.string ⟨a.1.toArray⟩, .string ⟨a.2.toArray⟩] 44)
              have c3a := moved c3 hda (Nat.le_refl _); have n0a := moved n0 hda (Nat.le_refl _); have n1a := moved n1 hda (Nat.le_refl _)
              have HCL : Hid (∀ w', Below W4.heap.size W4 w' → Calls Tryd.prog 24 #[.slice Gv s.rcp.length cv] w' fun e w'' => (∃ v', e = .returned v' ∧ w''.ownsRow W4.heap.size 44 2 v' s.rcp.length (s.rcp.flatMap adC)) ∧ Below w'.heap.size w' w'') := by
                intro w' hb
                refine (cloneA_any _ s.rcp _ w' (HR4.out.down hb) (by omega)).mono ?_
                rintro e w'' ⟨⟨v', rfl, hv⟩, hb2⟩
                exact ⟨⟨v', rfl, own_base hb.size hv⟩, hb2⟩
              obtain ⟨L, hL⟩ : ∃ L, L = s.rcp.flatMap adC := ⟨_, rfl⟩
              rw [← hL] at HCL
              have HLE := Lib.hid hL
              clear hL
              clear hda
              go_region_law (first
                | (refine step_append_lies _ (by rfl) _ _ _ (by rfl) W4.heap.size 44 i0 _ 2 32 Tryd.underlying47 HI.out HZ0.out HZ1.out HZ2.out rfl (by omega) v4 s.rcp.length L (by rfl) (hown4.alloc _) ⟨w4.heap.size, 0, none⟩ 1 1 [.string ⟨a.1.toArray⟩, .string ⟨a.2.toArray⟩] (by rfl) (by rfl) (news_of w4 [.string ⟨a.1.toArray⟩, .string ⟨a.2.toArray⟩] 44) (by simp [Value.oneCell']) (by omega) (by unfold maxLen; omega) (by omega) (by simp; omega) (w4.heap.size + 1) (by simp) ?_
                   intro g5 cap5 w5 hown5 hgrow5 hat5 hlt5
                   have hb5 := below_row (ba hd5 _) (Nat.le_refl _) (hown4.alloc _) (Nat.le_refl _) hgrow5
                   have d3 := moved c3 hb5 (Nat.le_refl _)
                   have df3 := (hb5.frozen (p := ⟨R, 3, none⟩) hz4).trans f3)
                | (refine step_append_lies _ (by rfl) _ _ _ (by rfl) W4.heap.size 44 i0 _ 2 32 Tryd.underlying47 HI.out HZ0.out HZ1.out HZ2.out rfl (by omega) v4 s.rcp.length L (by rfl) hown4 ⟨W4.heap.size, 0, none⟩ 1 1 [.string ⟨a.1.toArray⟩, .string ⟨a.2.toArray⟩] (by rfl) (by rfl) (news_has hh4) (by simp [Value.oneCell']) (by omega) (by unfold maxLen; omega) (by omega) hz5 w4.heap.size rfl ?_
                   intro g5 cap5 w5 hown5 hgrow5 hat5 hlt5
                   have hb5 := below_row hd5 (Nat.le_refl _) hown4 (Nat.le_refl _) hgrow5
                   have d3 := moved c3 hb5 (Nat.le_refl _)
                   have df3 := (hb5.frozen (p := ⟨R, 3, none⟩) hz4).trans f3)
                | (go_simp; go_at_call 24; refine (HCL.out _ (by first | exact hdr | exact ba hdr _)).mono ?_; rintro e w4 ⟨⟨v4, rfl, hown4⟩, hb4⟩; first
                  | (have hd5 := bt hdr hb4
                     have hz5 : W4.heap.size ≤ w4.heap.size := hd5.size; have n0b := moved n0 hd5 (Nat.le_refl _); have n1b := moved n1 hd5 (Nat.le_refl _))
                  | (have hd5 := bt (ba hdr _) hb4
                     have hz5 : W4.heap.size ≤ w4.heap.size := hd5.size; have n0b := moved n0 hd5 (Nat.le_refl _); have n1b := moved n1 hd5 (Nat.le_refl _)
                     have hh4 : Has w4 W4.heap.size [.string ⟨a.1.toArray⟩, .string ⟨a.2.toArray⟩] := (Has.alloc W4.drew [.string ⟨a.1.toArray⟩, .string ⟨a.2.toArray⟩] 44).down hb4)))
              all_goals
                have HD5 := Lib.hid (rcpt_done (LB := LB) (by have := HG4.out.size; omega) H4.out hb5 hown5 HLE.out HG4.out)
                clear hb5 hown5 hgrow5 hat5 hlt5 d3 df3 hb4 hown4 hd5 hz5 n0b n1b c3 c3a n0 n0a n1 n1a f3 hdr
                go_wp2_with fail
                go_ret
                exact ⟨by rw [HO4.out]; rfl, by rw [HO4.out]; exact HD5.out⟩
  · have q1 : ((s.step : Int) == 2) = false := by simp; omega
    have q2 : ((s.step : Int) == 3) = false := by simp; omega
    have q1' : ((s.step : Int) != 2) = true := by simp; omega
    have q2' : ((s.step : Int) != 3) = true := by simp; omega
    have HO2 : Hid (rcptS s S.data.toList known = (s, 503)) := by unfold Hid; rw [HO.out]; unfold rcptO; rw [if_pos (by omega)]
    clear HO hxy h1
    go_wp2_with fail
    go_ret
    exact ⟨by rw [HO2.out]; rfl, by rw [HO2.out]; exact SesPost.of H1.out (gb HB1.out)⟩
end Go.Proofs.YtdhepaeephmhiaaDoor
