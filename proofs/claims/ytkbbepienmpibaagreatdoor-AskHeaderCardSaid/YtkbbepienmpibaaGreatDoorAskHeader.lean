/-
  DERIVED. The law AskHeader: its walk.
-/
import Derived.Test.YtkbbepienmpibaaGreatDoorJdHd2
namespace Go.Proofs.YtkbbepienmpibaaGreatDoor.Jd
open Go.RowKit
open Sc (Str Tst Cmd cStr strC tstC cTst cCmd RW Stk cStk)

/-- the letter and its message in variables -/
structure HdSt (w W : World) (L M : Nat) (x : Ltt) (v : Value) (body : Str) (fs : List Fld) : Prop where
  l : Has W L (lttC x)
  m : Has W M [v, .string ⟨body.toArray⟩]
  f : FldsAt W v fs
  bel : Below w.heap.size w W
theorem HdSt.down {w W W' : World} {L M : Nat} {x : Ltt} {v : Value} {body : Str} {fs : List Fld} (h : HdSt w W L M x v body fs) (hb : Below W.heap.size W W') : HdSt w W' L M x v body fs := ⟨h.l.down hb, h.m.down hb, h.f.down hb, bt h.bel hb⟩
theorem any_step (fs : List Fld) (j : Nat) (hj : j < fs.length) : (fs.take (j + 1)).any annF = ((fs.take j).any annF || annF fs[j]) := by
  rw [List.take_succ_eq_append_getElem hj, List.any_append]; simp
set_option maxHeartbeats 8000000 in
set_option maxRecDepth 20000 in
theorem askHeader_any (a0 a1 a2 b0 b1 b2 : ByteArray) (G : Option Addr) (n c : Nat) (z : Nat → Nat → ByteArray) (bo : ByteArray) (q m : Int) (w : World)
    (h : PostIn w a0 a1 a2 b0 b1 b2 G n c z bo) (hW : RW w m) :
    Calls Tryz.prog 6 #[.agg #[.string a0, .string a1, .string a2, .string b0, .string b1, .string b2, .slice G n c, .string bo], .int .i64 q] w fun e w' => e = .returned (.bool true) ∧ Below w.heap.size w w' := by
  obtain ⟨x, hx⟩ : ∃ x, x = ltrX a0 a1 b0 b1 z n bo := ⟨_, rfl⟩
  have hok := ltrX_ok a0 a1 b0 b1 z n bo
  rw [← hx] at hok
  have hnone := exT_none x z n
  have hfl : ∀ f ∈ ltrFs z n, f.1.length ≤ 100 ∧ f.2.length ≤ 100 := by
    intro f hf
    unfold ltrFs at hf
    obtain ⟨g, hg, rfl⟩ := List.mem_map.1 hf
    have h1 := (letN_ok g.2.length).2
    have h2 := msg_val z _ g hg
    refine ⟨by show (letN g.2.length).length ≤ _; omega, ?_⟩
    unfold letF
    dsimp only
    split
    · decide
    · omega
  have hlen : (ltrFs z n).length ≤ 6 := by rw [ltrFs_len]; omega
  obtain ⟨fs, hfs⟩ : ∃ fs, fs = ltrFs z n := ⟨_, rfl⟩
  rw [← hfs] at hok hnone hfl hlen
  obtain ⟨body, hbd⟩ : ∃ body, body = bo.data.toList.take 100 := ⟨_, rfl⟩
  rw [← hbd] at hok
  have HLT : Hid (∀ V, Below w.heap.size w V → Calls Tryz.prog 11 #[.agg #[.string a0, .string a1, .string a2, .string b0, .string b1, .string b2, .slice G n c, .string bo]] V (LetterP x V)) := fun V hV => by
    rw [hx]
    exact letterX_any a0 a1 a2 b0 b1 b2 G n c z bo m V (h.down hV) (hW.down hV).max
  have HCH : Hid (∀ V, Below w.heap.size w V → Calls Tryz.prog 17 #[.agg (lttC x).toArray] V (ChkP fs body V)) := fun V hV => jcheck_any x fs body m V hok (hW.down hV).max
  have HA1 : Hid (∀ (V : World) (N1 N2 : Nat) (f : Fld), f ∈ fs → V.cell? ⟨N1, 0, none⟩ = some (.string ⟨f.1.toArray⟩) → V.cell? ⟨N2, 0, none⟩ = some (.string ⟨f.2.toArray⟩) → Below w.heap.size w V → Calls Tryz.prog 14 #[.agg #[.int .i64 6, .int .i64 1, .int .i64 0, .slice (some ⟨N1, 0, none⟩) 1 1, .slice (some ⟨N2, 0, none⟩) 1 1, .bool false, .int .i64 0, .slice none 0 0], .agg (lttC x).toArray] V (AskR true V)) := fun V N1 N2 f hf h1 h2 hV => by
    rw [← hdrT_says x hf]
    exact jask_tv 1 13 (hdrT f.1 f.2) _ x fs body m V ⟨_, _, _, rfl, str_at V N1 _ h1, str_at V N2 _ h2, SAt.nil _ _ _⟩ (hdrT_fine (hfl f hf).1 (hfl f hf).2) (by omega) hok (hW.down hV)
  have HA2 : Hid (∀ (V : World) (N1 : Nat) (s : Str), s.length ≤ 100 → V.cell? ⟨N1, 0, none⟩ = some (.string ⟨s.toArray⟩) → Below w.heap.size w V → Calls Tryz.prog 14 #[.agg #[.int .i64 9, .int .i64 0, .int .i64 0, .slice (some ⟨N1, 0, none⟩) 1 1, .slice none 0 0, .bool false, .int .i64 0, .slice none 0 0], .agg (lttC x).toArray] V (AskR (tstJ x fs (exT s)) V)) := fun V N1 s hs h1 hV =>
    jask_tv 1 13 (exT s) _ x fs body m V ⟨_, _, _, rfl, str_at V N1 _ h1, SAt.nil _ _ _, SAt.nil _ _ _⟩ (exT_fine hs) (by omega) hok (hW.down hV)
  have HA3 : Hid (∀ (V : World) (N1 N2 : Nat), V.cell? ⟨N1, 0, none⟩ = some (.string ⟨#[116, 111]⟩) → V.cell? ⟨N2, 0, none⟩ = some (.string ⟨#[97, 110, 110]⟩) → Below w.heap.size w V → Calls Tryz.prog 14 #[.agg #[.int .i64 7, .int .i64 1, .int .i64 2, .slice (some ⟨N1, 0, none⟩) 1 1, .slice (some ⟨N2, 0, none⟩) 1 1, .bool false, .int .i64 0, .slice none 0 0], .agg (lttC x).toArray] V (AskR (tstJ x fs adrT) V)) := fun V N1 N2 h1 h2 hV =>
    jask_tv 1 13 adrT _ x fs body m V ⟨_, _, _, rfl, str_at V N1 _ h1, str_at V N2 _ h2, SAt.nil _ _ _⟩ adrT_fine (by omega) hok (hW.down hV)
  have HEX : Hid (∀ f ∈ fs, tstJ x fs (exT f.1) = true) := fun f hf => exT_self x hf
  have HFL := Lib.hid hfl
  have HNO := Lib.hid hnone
  have HAN : Hid (fs.any annF = true → tstJ x fs adrT = true) := fun h => adrT_says x h
  have hA1 := ba (Below.refl w.heap.size w) (.cells #[.string a0, .string a1, .string a2, .string b0, .string b1, .string b2, .slice G n c, .string bo] 26)
  have HX1 := Lib.hid (Has.alloc w [.string a0, .string a1, .string a2, .string b0, .string b1, .string b2, .slice G n c, .string bo] 26)
  have HA := Lib.hid hA1
  have HC := Lib.hid (HLT.out _ hA1)
  obtain ⟨p0, p1, p2, p3, p4, p5, p6, p7⟩ := Sc.has_oct' HX1.out
  clear hx hfs hbd h hW hok hA1 HLT hfl hnone
  go_enter Tryz.func6, Tryz.ntmps6
  go_wp2_with fail
  refine HC.out.mono ?_
  rintro e w1 ⟨rfl, hb1⟩
  have hA := ba (Below.refl w1.heap.size w1) (.cells (lttC x).toArray 33)
  have HL := Lib.hid (Has.alloc w1 (lttC x) 33)
  have HB2 := Lib.hid (bt (bt HA.out hb1) hA)
  have HC := Lib.hid (HCH.out _ HB2.out)
  obtain ⟨l0, l1, l2, l3, l4⟩ := ltt_get HL.out
  obtain ⟨L, hLe⟩ : ∃ L, L = w1.heap.size := ⟨_, rfl⟩
  have HLe := Lib.hid hLe
  unfold lttC at HC l0 l1 l2 l3 l4 HB2 HL ⊢
  rw [← hLe] at HL l0 l1 l2 l3 l4
  clear hA hb1 p0 p1 p2 p3 p4 p5 p6 p7 HX1 HA HCH
  go_upto_region 2 with fail
  rw [← HLe.out]
  clear hLe
  go_wp2_with fail
  refine HC.out.mono ?_
  intro e w3 hp
  obtain ⟨v, rfl, hf3, hb3⟩ := hp
  obtain ⟨Gf, cf, rfl, -⟩ := id hf3
  have hA := ba (Below.refl w3.heap.size w3) (.cells #[.slice Gf fs.length cf, .string ⟨body.toArray⟩] 52)
  have hM := Has.alloc w3 [.slice Gf fs.length cf, .string ⟨body.toArray⟩] 52
  obtain ⟨M, hMe⟩ : ∃ M, M = w3.heap.size := ⟨_, rfl⟩
  rw [← hMe] at hM
  have HMe := Lib.hid hMe
  have HST : Hid (HdSt w (w3.alloc (.cells #[.slice Gf fs.length cf, .string ⟨body.toArray⟩] 52)) L M x (.slice Gf fs.length cf) body fs) := ⟨(HL.out.down hb3).down hA, hM, hf3.down hA, bt (bt HB2.out hb3) hA⟩
  clear hA hM hMe hf3 hb3 HC HB2 HL HLe l0 l1 l2 l3 l4
  unfold lttC at HA1 HA2 HA3
  go_upto_region 5 with fail
  rw [← HMe.out]
  refine wp_here (R := fun W => HdSt w W L M x (.slice Gf fs.length cf) body fs) HST.out (fun W hS => ?_)
  have HSW := Lib.hid hS
  obtain ⟨m0, m1, -⟩ := hS.m.two
  clear HST hS HMe
  go_wp2_with fail
  clear m0 m1
  go_loopw [9] (fun i wr => ∃ j : Nat, j ≤ fs.length ∧ i = .int .i64 j ∧ Below W.heap.size W wr) (fun i _ => fs.length - (intOf i).toNat)
  case atStart => exact ⟨0, Nat.zero_le _, rfl, Below.refl _ _⟩
  case round =>
    obtain ⟨j, hj, rfl, hb⟩ := hrel
    have HS := Lib.hid (HSW.out.down hb)
    obtain ⟨m0, m1, -⟩ := HS.out.m.two
    by_cases hlt : j < fs.length
    · obtain ⟨Gx, cx, hv, hcell⟩ := HS.out.f
      cases hv
      obtain ⟨g, rfl, hg, f0, fv⟩ := hcell j fs[j] (List.getElem?_eq_getElem hlt)
      have HMEM : Hid (fs[j] ∈ fs) := List.getElem_mem hlt
      obtain ⟨fj, hfj⟩ : ∃ fj, fj = fs[j] := ⟨_, rfl⟩
      rw [← hfj] at f0 fv HMEM
      have hl1 := (HFL.out fj HMEM.out).1
      obtain ⟨f1, f2⟩ := fj
      have HF0 := Lib.hid f0
      have HBW := Lib.hid hb
      have hj0 : (0 : Int) ≤ (j : Int) := by omega
      have hj1 : (j : Int) < (fs.length : Int) := by omega
      clear hfj hcell hg hb
      dsimp only at f0 fv hl1 HF0
      go_upto_region 9 with fail
      clear m0 m1 f0 fv
      have hdr := Below.drew (Below.refl wr.heap.size wr)
      have HSD := Lib.hid (HS.out.down hdr)
      have HFD := Lib.hid (moved HF0.out hdr (Nat.le_refl _))
      have HSR : Hid (∀ V, Below wr.drew.heap.size wr.drew V → V.cell? ⟨M, 0, none⟩ = some (.slice (some ⟨g, 0, none⟩) fs.length cf) ∧ V.cell? ⟨g, j * 2, none⟩ = some (.string ⟨f1.toArray⟩) ∧ V.cell? ⟨L, 0, none⟩ = some (.string ⟨x.fa.toArray⟩) ∧ V.cell? ⟨L, 1, none⟩ = some (.string ⟨x.fd.toArray⟩) ∧ V.cell? ⟨L, 2, none⟩ = some (.string ⟨x.ta.toArray⟩) ∧ V.cell? ⟨L, 3, none⟩ = some (.string ⟨x.td.toArray⟩) ∧ V.cell? ⟨L, 4, none⟩ = some (.string ⟨x.text.toArray⟩)) := fun V hV => by
        have h := HSD.out.down hV
        obtain ⟨m0, m1, -⟩ := h.m.two
        obtain ⟨l0, l1, l2, l3, l4⟩ := ltt_get h.l
        exact ⟨m0, moved HFD.out hV (Nat.le_refl _), l0, l1, l2, l3, l4⟩
      obtain ⟨g0, g1, g2, g3, g4, g5, g6⟩ := HSR.out _ (Below.refl _ _)
      have HDR9 := Lib.hid (Below.drew (Below.refl wr.heap.size wr))
      clear hdr
      refine wp_region_noPanic ?_
      go_region_held3 (fun w' => w'.cell? ⟨M, 0, none⟩ = some (.slice (some ⟨g, 0, none⟩) fs.length cf) ∧ w'.cell? ⟨g, j * 2, none⟩ = some (.string ⟨f1.toArray⟩) ∧ w'.cell? ⟨L, 0, none⟩ = some (.string ⟨x.fa.toArray⟩) ∧ w'.cell? ⟨L, 1, none⟩ = some (.string ⟨x.fd.toArray⟩) ∧ w'.cell? ⟨L, 2, none⟩ = some (.string ⟨x.ta.toArray⟩) ∧ w'.cell? ⟨L, 3, none⟩ = some (.string ⟨x.td.toArray⟩) ∧ w'.cell? ⟨L, 4, none⟩ = some (.string ⟨x.text.toArray⟩)) (first | exact HSR.out _ (Below.refl _ _) | exact HSR.out _ (ba (Below.refl _ _) _) | exact HSR.out _ (ba (ba (Below.refl _ _) _) _) | exact HSR.out _ HBE.out) (first
        | (go_at_call 14; refine (HA1.out _ _ _ (f1, f2) HMEM.out (by first | exact (two_strs _ _ _ _).1 | exact (two_strs _ _ _ _).2) (by first | exact (two_strs _ _ _ _).1 | exact (two_strs _ _ _ _).2) (bt HSD.out.bel (ba (ba (Below.refl _ _) _) _))).mono ?_; rintro e w9 ⟨rfl, hb9⟩; have HBE := Lib.hid (bt (ba (ba (Below.refl wr.drew.heap.size wr.drew) _) _) hb9)))
      all_goals
        refine NoPanic.normal ?_
        have HB9 := Lib.hid HBE.out
        have HS9 := Lib.hid (HSD.out.down HBE.out)
        have HF9 := Lib.hid (moved HFD.out HBE.out (Nat.le_refl _))
        clear g0 g1 g2 g3 g4 g5 g6 HSR HSD HFD HS HF0 HBE hb9
        have HS := Lib.hid HS9.out
        have HF0 := Lib.hid HF9.out
        have HBW9 := Lib.hid (bt HBW.out (HDR9.out.trans (HB9.out.mono HDR9.out.size)))
        clear HS9 HF9 HB9
        go_upto_region 10 with fail
        have hdr := Below.drew (Below.refl w9.heap.size w9)
        have HSD := Lib.hid (HS.out.down hdr)
        have HFD := Lib.hid (moved HF0.out hdr (Nat.le_refl _))
        have HSR : Hid (∀ V, Below w9.drew.heap.size w9.drew V → V.cell? ⟨M, 0, none⟩ = some (.slice (some ⟨g, 0, none⟩) fs.length cf) ∧ V.cell? ⟨g, j * 2, none⟩ = some (.string ⟨f1.toArray⟩) ∧ V.cell? ⟨L, 0, none⟩ = some (.string ⟨x.fa.toArray⟩) ∧ V.cell? ⟨L, 1, none⟩ = some (.string ⟨x.fd.toArray⟩) ∧ V.cell? ⟨L, 2, none⟩ = some (.string ⟨x.ta.toArray⟩) ∧ V.cell? ⟨L, 3, none⟩ = some (.string ⟨x.td.toArray⟩) ∧ V.cell? ⟨L, 4, none⟩ = some (.string ⟨x.text.toArray⟩)) := fun V hV => by
          have h := HSD.out.down hV
          obtain ⟨m0, m1, -⟩ := h.m.two
          obtain ⟨l0, l1, l2, l3, l4⟩ := ltt_get h.l
          exact ⟨m0, moved HFD.out hV (Nat.le_refl _), l0, l1, l2, l3, l4⟩
        obtain ⟨g0, g1, g2, g3, g4, g5, g6⟩ := HSR.out _ (Below.refl _ _)
        have HDR2 := Lib.hid (Below.drew (Below.refl w9.heap.size w9))
        clear hdr
        refine wp_region_noPanic ?_
        go_region_held3 (fun w' => w'.cell? ⟨M, 0, none⟩ = some (.slice (some ⟨g, 0, none⟩) fs.length cf) ∧ w'.cell? ⟨g, j * 2, none⟩ = some (.string ⟨f1.toArray⟩) ∧ w'.cell? ⟨L, 0, none⟩ = some (.string ⟨x.fa.toArray⟩) ∧ w'.cell? ⟨L, 1, none⟩ = some (.string ⟨x.fd.toArray⟩) ∧ w'.cell? ⟨L, 2, none⟩ = some (.string ⟨x.ta.toArray⟩) ∧ w'.cell? ⟨L, 3, none⟩ = some (.string ⟨x.td.toArray⟩) ∧ w'.cell? ⟨L, 4, none⟩ = some (.string ⟨x.text.toArray⟩)) (first | exact HSR.out _ (Below.refl _ _) | exact HSR.out _ (ba (Below.refl _ _) _) | exact HSR.out _ (ba (ba (Below.refl _ _) _) _) | exact HSR.out _ HBE2.out) (first
          | (go_at_call 14; have hcon := HA2.out _ w9.drew.heap.size f1 hl1 (alloc_cell w9.drew #[.string ⟨f1.toArray⟩] 9 0 _ rfl) (bt HSD.out.bel (ba (Below.refl _ _) _)); rw [HEX.out (f1, f2) HMEM.out] at hcon; refine hcon.mono ?_; rintro e w10 ⟨rfl, hb10⟩; have HBE2 := Lib.hid (bt (ba (Below.refl w9.drew.heap.size w9.drew) _) hb10)))
        all_goals
          refine NoPanic.normal ?_
          have HB10 := Lib.hid HBE2.out
          clear g0 g1 g2 g3 g4 g5 g6
          have HX := Lib.hid (HDR2.out.trans (HB10.out.mono HDR2.out.size))
          have HBF := Lib.hid (bt HBW9.out HX.out)
          clear HB10 HX HBE2 HDR2 HSR HSD HFD HS HF0
          go_wp2_with fail
          go_roundw
          case rel => exact ⟨j + 1, by omega, by go_num, HBF.out⟩
          case measure => simp [intOf]; omega

    · obtain rfl : j = fs.length := by omega
      have HBW := Lib.hid hb
      clear hb hj
      obtain ⟨l0, l1, l2, l3, l4⟩ := ltt_get (HS.out.down (ba (Below.refl wr.heap.size wr) (.cells #[.string ⟨#[110, 111, 110, 101]⟩] 9))).l
      have hC := HA2.out (wr.alloc (.cells #[.string ⟨#[110, 111, 110, 101]⟩] 9)) wr.heap.size noneJ (by decide) (alloc_cell wr #[.string ⟨#[110, 111, 110, 101]⟩] 9 0 _ rfl) (bt HS.out.bel (ba (Below.refl _ _) _))
      rw [HNO.out] at hC
      have HC := Lib.hid hC
      have HS1 := Lib.hid (HS.out.down (ba (Below.refl wr.heap.size wr) (.cells #[.string ⟨#[110, 111, 110, 101]⟩] 9)))
      clear hC HNO HA1 HEX HFL
      go_wp2_with fail
      refine HC.out.mono ?_
      rintro e w13 ⟨rfl, hb13⟩
      have HS13 := Lib.hid (HS1.out.down hb13)
      clear l0 l1 l2 l3 l4 m0 m1 hb13 HC HS1 HS HSW HBW
      have hbb := ba (ba (Below.refl w13.heap.size w13) (.cells #[.string ⟨#[116, 111]⟩] 9)) (.cells #[.string ⟨#[97, 110, 110]⟩] 9)
      have HS14 := Lib.hid (HS13.out.down hbb)
      obtain ⟨l0, l1, l2, l3, l4⟩ := ltt_get HS14.out.l
      obtain ⟨d, hd⟩ : ∃ d, d = tstJ x fs adrT := ⟨_, rfl⟩
      have HC := Lib.hid (HA3.out _ w13.heap.size (w13.heap.size + 1) (two_strs w13 _ _ _).1 (two_strs w13 _ _ _).2 HS14.out.bel)
      rw [← hd] at HC HAN
      clear hd hbb HA2 HA3
      go_wp2_with fail
      refine HC.out.mono ?_
      rintro e w14 ⟨rfl, hb14⟩
      have HS15 := Lib.hid (HS14.out.down hb14)
      clear l0 l1 l2 l3 l4 hb14 HC HS14 HS13
      obtain ⟨m0, m1, -⟩ := HS15.out.m.two
      go_wp2_with fail
      clear m0 m1
      go_loopw [19, 20] (fun tv i wr => ∃ j : Nat, j ≤ fs.length ∧ tv = .bool ((fs.take j).any annF) ∧ i = .int .i64 j ∧ Below w14.heap.size w14 wr) (fun _ i _ => fs.length - (intOf i).toNat)
      case atStart => exact ⟨0, Nat.zero_le _, rfl, rfl, Below.refl _ _⟩
      case round =>
        obtain ⟨j, hj, rfl, rfl, hb⟩ := hrel
        have HS := Lib.hid (HS15.out.down hb)
        have HBW := Lib.hid hb
        obtain ⟨m0, m1, -⟩ := HS.out.m.two
        by_cases hlt : j < fs.length
        · obtain ⟨Gx, cx, hv, hcell⟩ := HS.out.f
          cases hv
          obtain ⟨g, rfl, hg, f0, fv⟩ := hcell j fs[j] (List.getElem?_eq_getElem hlt)
          have HST := Lib.hid (any_step fs j hlt)
          obtain ⟨fj, hfj⟩ : ∃ fj, fj = fs[j] := ⟨_, rfl⟩
          rw [← hfj] at f0 fv HST
          obtain ⟨f1, f2⟩ := fj
          have hj0 : (0 : Int) ≤ (j : Int) := by omega
          have hj1 : (j : Int) < (fs.length : Int) := by omega
          obtain ⟨T, hT⟩ : ∃ T, T = (fs.take j).any annF := ⟨_, rfl⟩
          rw [← hT] at HST ⊢
          dsimp only at f0 fv
          clear hfj hcell hg hb hT
          cases T with
          | true =>
            have HN : Hid ((fs.take (j + 1)).any annF = true) := by unfold Hid; rw [HST.out]; rfl
            go_wp2_with fail
            go_roundw
            case rel => exact ⟨j + 1, by omega, by rw [HN.out], by go_num, HBW.out⟩
            case measure => simp [intOf]; omega
          | false =>
            cases q1 : f1 == [116, 111] with
            | false =>
              have HN : Hid ((fs.take (j + 1)).any annF = false) := by unfold Hid; rw [HST.out]; unfold annF toJ; rw [q1]; rfl
              go_wp2_with fail
              go_roundw
              case rel => exact ⟨j + 1, by omega, by rw [HN.out], by go_num, HBW.out⟩
              case measure => simp [intOf]; omega
            | true =>
              cases q2 : f2 == [65, 110, 110, 32, 60, 97, 110, 110, 64, 120, 46, 121, 62, 44, 32, 98, 64, 99] with
              | false =>
                have HN : Hid ((fs.take (j + 1)).any annF = false) := by unfold Hid; rw [HST.out]; unfold annF toJ annL; rw [q1, q2]; rfl
                go_wp2_with fail
                go_roundw
                case rel => exact ⟨j + 1, by omega, by rw [HN.out], by go_num, HBW.out⟩
                case measure => simp [intOf]; omega
              | true =>
                have HN : Hid ((fs.take (j + 1)).any annF = true) := by unfold Hid; rw [HST.out]; unfold annF toJ annL; rw [q1, q2]; rfl
                go_wp2_with fail
                go_roundw
                case rel => exact ⟨j + 1, by omega, by rw [HN.out], by go_num, HBW.out⟩
                case measure => simp [intOf]; omega
        · obtain rfl : j = fs.length := by omega
          have HBF := Lib.hid (bt HS15.out.bel hb)
          rw [List.take_length]
          obtain ⟨T, hT⟩ : ∃ T, T = fs.any annF := ⟨_, rfl⟩
          rw [← hT] at HAN ⊢
          clear hT hb hj
          cases T with
          | true =>
            have hd : d = true := HAN.out rfl
            subst hd
            clear HAN
            go_wp2_with fail
            go_ret
            exact ⟨rfl, HBF.out⟩
          | false =>
            clear HAN
            go_wp2_with fail
            go_ret
            exact ⟨rfl, HBF.out⟩
theorem askHeader_walk (a0 a1 a2 b0 b1 b2 : ByteArray) (G : Option Addr) (n c : Nat) (z : Nat → Nat → ByteArray) (bo : ByteArray) (q mx : Int) (W : World) (h0 : a0.size ≤ maxLen) (h1 : a1.size ≤ maxLen) (_h2 : a2.size ≤ maxLen) (j0 : b0.size ≤ maxLen) (j1 : b1.size ≤ maxLen) (_j2 : b2.size ≤ maxLen) (hx : StrRows W G n 2 z ∧ n ≤ maxLen) (hbo : bo.size ≤ maxLen)
    (_hq : -9223372036854775808 ≤ q ∧ q ≤ 9223372036854775807) (hT : Sc.Tabs W W.heap.size) (hE : Sc.ExtAt W ∧ 0 < W.heap.size) (hN : NamesAt W ∧ 2 < W.heap.size) (hmx : W.cell? ⟨3, 0, none⟩ = some (.int .i64 mx)) :
    Calls Tryz.prog 6 #[.agg #[.string a0, .string a1, .string a2, .string b0, .string b1, .string b2, .slice G n c, .string bo], .int .i64 q] W fun e w' => e = .returned (.bool true) ∧ Below W.heap.size W w' :=
  askHeader_any a0 a1 a2 b0 b1 b2 G n c z bo q mx W ⟨h0, h1, j0, j1, hx, hbo⟩ ⟨hT, hE, hN, hmx⟩
end Go.Proofs.YtkbbepienmpibaaGreatDoor.Jd
