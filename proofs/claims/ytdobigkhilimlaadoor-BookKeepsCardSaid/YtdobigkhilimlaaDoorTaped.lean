/-
  DERIVED. 'taped' of postroomkeep: the walk.
-/
import Derived.Test.YtdobigkhilimlaaDoorTapes
import Derived.Test.YtdobigkhilimlaaDoorBats
import Derived.Deep.DeepCutAuto
namespace Go.Proofs.YtdobigkhilimlaaDoor
open Go.RowKit

/-- what taped answers -/
def TapedPost (bs : List Bat) (w : World) (e : Ending) (w' : World) : Prop := (∃ v, e = .returned (.tuple #[v, .bool true]) ∧ TapeAt w' v (tapeL bs) 0) ∧ Below w.heap.size w w'
theorem taped_end {R : Nat} {u : Value} {bs : List Bat} {a : Act} {W w : World} (ht : a.tmps.getD 2 undef = .pointer (some ⟨R, 0, none⟩)) (ht3 : a.tmps.getD 3 undef = .bool true) (hd : a.defers = [])
    (h : Has W R [u, .int .i64 0]) (he : Bytes W u (tapeL bs)) (hb : Below w.heap.size w W) :
    bodyPost Tryd.prog Tryd.f17 (TapedPost bs w) .ret a W := by
  obtain ⟨c0, c1, _, _⟩ := h.two
  refine bodyPost_ret (v := .tuple #[.agg #[u, .int .i64 0], .bool true]) ?_ hd ⟨⟨_, rfl, u, rfl, he⟩, hb⟩
  have ht' : a.tmps[2]?.getD undef = .pointer (some ⟨R, 0, none⟩) := by simpa using ht
  have ht3' : a.tmps[3]?.getD undef = .bool true := by simpa using ht3
  simp [results, Tryd.results17, go_sem, ht', ht3', c0, c1]
theorem Bytes.set {w : World} {R i : Nat} {v u : Value} {l : List UInt8} (h : Bytes w v l) (hR : ∀ a n c, v = .slice (some a) n c → a.block ≠ R) : Bytes (w.setCell ⟨R, i, none⟩ u) v l := by
  obtain ⟨a, cap, hv, hc, hat, hap⟩ := h
  refine ⟨a, cap, hv, hc, fun i' c hi => ?_, fun x hx => ?_⟩
  · obtain ⟨g, off, h1, h2, h3⟩ := hat i' c hi
    have hne : g ≠ R := hR ⟨g, off, none⟩ _ _ (by rw [hv, h1])
    have hk := Go.Lib.grownBy_setB (World.grownBy.refl w (some R)) i u
    exact ⟨g, off, h1, Nat.lt_of_lt_of_le h2 hk.size, (World.cell?_of_block (a := ⟨g, off + i', none⟩) (hk.block g h2 (by intro e; exact hne (Option.some.inj e)))).trans h3⟩
  · have := hap x hx
    simpa using this
theorem Bytes.block {w : World} {u : Value} {l : List UInt8} (h : Bytes w u l) : ∀ k, u.ownBlock = some k → k < w.heap.size := by
  obtain ⟨a, cap, rfl, hc, hat, hap⟩ := h
  intro k hk
  cases a with
  | none => cases hk
  | some x => obtain rfl := Option.some.inj hk; exact hap x rfl
theorem Bytes.set2 {w : World} {R i : Nat} {v u : Value} {l : List UInt8} (h : Bytes w v l) (hR : ∀ k, v.ownBlock = some k → k ≠ R) : Bytes (w.setCell ⟨R, i, none⟩ u) v l :=
  h.set (fun a n c e => hR a.block (by rw [e]; rfl))
/-- what stands behind one append -/
def NextAt (B : Nat) (D : List UInt8) (wr : World) (p e : Value) (wx : World) : Prop := ∃ (R : Nat) (u : Value), p = .pointer (some ⟨R, 0, none⟩) ∧ e = .int .i64 0 ∧ B < R ∧ Has wx R [u, .int .i64 0] ∧ Bytes wx u D ∧ (∀ k, u.ownBlock = some k → wr.heap.size ≤ k) ∧ Below wr.heap.size wr wx
theorem next_at {B R : Nat} {D : List UInt8} {wr wx : World} {u : Value} (hB : B < R) (hR : wr.heap.size ≤ R) (h : Has wx R [.slice none 0 0, .int .i64 0]) (hu : Bytes wx u D) (hf : ∀ k, u.ownBlock = some k → wr.heap.size ≤ k) (hne : ∀ k, u.ownBlock = some k → k ≠ R) (hb : Below wr.heap.size wr wx) :
    NextAt B D wr (.pointer (some ⟨R, 0, none⟩)) (.int .i64 0) ((wx.setCell ⟨R, 0, none⟩ u).setCell ⟨R, 1, none⟩ (.int .i64 0)) :=
  ⟨R, u, rfl, rfl, hB, (h.set' (i := 0) u (by simp)).set' (i := 1) (.int .i64 0) (by simp), (hu.set2 hne).set2 hne, hf, (hb.setCell (p := ⟨R, 0, none⟩) hR _).setCell (p := ⟨R, 1, none⟩) hR _⟩
theorem next_new {B : Nat} {D : List UInt8} {wr wx : World} {u : Value} (hB : B < wr.heap.size) (hu : Bytes wx u D) (hf : ∀ k, u.ownBlock = some k → wr.heap.size ≤ k) (hb : Below wr.heap.size wr wx) :
    NextAt B D wr (.pointer (some ⟨wx.heap.size, 0, none⟩)) (.int .i64 0) (wx.alloc (.cells #[u, .int .i64 0] 42)) :=
  ⟨wx.heap.size, u, rfl, rfl, Nat.lt_of_lt_of_le hB hb.size, Has.alloc wx [u, .int .i64 0] 42, hu.down (ba (Below.refl _ _) _), hf, ba hb _⟩
theorem tape_take (bs : List Bat) (j : Nat) (h : j < bs.length) : tapeL (bs.take (j + 1)) = tapeL (bs.take j) ++ frameL bs[j] := by
  rw [List.take_succ_eq_append_getElem h, tapeL_append, tapeL_one]
theorem tape_len_take (bs : List Bat) (j : Nat) : (tapeL (bs.take j)).length ≤ (tapeL bs).length := by
  have h : tapeL bs = tapeL (bs.take j) ++ tapeL (bs.drop j) := by rw [← tapeL_append, List.take_append_drop]
  rw [h, List.length_append]; omega

set_option maxHeartbeats 4000000 in
set_option maxRecDepth 20000 in
theorem taped_any (v : Value) (bs : List Bat) (m : Int) (w : World) (h : BatsAt w v bs) (hg : ∀ b ∈ bs, GoodB b) (hlen : (tapeL bs).length ≤ 100000) (hl : bs.length ≤ 1000000)
    (hmx : w.cell? ⟨0, 0, none⟩ = some (.int .i64 m)) :
    Calls Tryd.prog 17 #[v] w (TapedPost bs w) := by
  obtain ⟨G, cap, rfl, _, hc⟩ := h
  have HF : Hid (∀ j (h : j < bs.length) (wr : World), Below w.heap.size w wr → ∃ g, G = some ⟨g, 0, none⟩ ∧ BatIn wr g (j * 2) bs[j]) := by
    intro j h wr hb
    obtain ⟨g, hG, hg, a0⟩ := hc j bs[j] (List.getElem?_eq_getElem h)
    exact ⟨g, hG, a0.down hb⟩
  have HG := Lib.hid hg; have HM := Lib.hid hmx
  have hb1 := ba (ba (Below.refl _ w) (.cells #[.slice none 0 0, .int .i64 0] 42)) (.cells #[.slice none 0 0, .int .i64 0] 42)
  have h1 := (Has.alloc w [.slice none 0 0, .int .i64 0] 42).down (ba (Below.refl _ _) (.cells #[.slice none 0 0, .int .i64 0] 42))
  have h2 := Has.alloc (w.alloc (.cells #[.slice none 0 0, .int .i64 0] 42)) [.slice none 0 0, .int .i64 0] 42
  simp only [World.size_alloc] at h2
  have HB1 := Lib.hid hb1; have H1 := Lib.hid h1; have H2 := Lib.hid h2
  have HLEN := Lib.hid hlen
  clear hc hg hmx hb1 h1 h2 hlen
  go_enter Tryd.func17, Tryd.ntmps17
  go_wp2_with fail
  go_loopw [5] (fun i wr => ∃ (j : Nat) (u : Value), j ≤ bs.length ∧ i = .int .i64 j ∧ Below w.heap.size w wr ∧ Has wr w.heap.size [.slice none 0 0, .int .i64 0] ∧ Has wr (w.heap.size + 1) [u, .int .i64 0] ∧ Bytes wr u (tapeL (bs.take j)) ∧ (∀ k, u.ownBlock = some k → k ≠ w.heap.size ∧ k ≠ w.heap.size + 1)) (fun i _ => bs.length - (intOf i).toNat)
  case atStart => exact ⟨0, .slice none 0 0, Nat.zero_le _, rfl, HB1.out, H1.out, H2.out, bytes_nil _, fun k e => by cases e⟩
  case round =>
    obtain ⟨j, u, hj, rfl, hbel, hr, ht, hu, hne⟩ := hrel
    by_cases hlt : j < bs.length
    · obtain ⟨g, hG, d1⟩ := HF.out j hlt wr hbel
      have hgood := HG.out bs[j] (List.getElem_mem _)
      have htk := tape_take bs j hlt
      have htl := tape_len_take bs (j + 1)
      have hfp := frameL_pos bs[j]
      generalize bs[j] = b at d1 hgood htk hfp
      have hfp' : (frameL (b.1, b.2)).length = (frameL b).length := rfl
      rw [htk, List.length_append] at htl
      obtain ⟨L, hL⟩ : ∃ L, L = tapeL (bs.take j) := ⟨_, rfl⟩
      rw [← hL] at hu htk htl
      have hlen := HLEN.out
      obtain ⟨v1, m0, m1, e1⟩ := d1
      have hdr := Below.drew (Below.refl wr.heap.size wr)
      have hA : Hid (∀ w', Below wr.heap.size wr w' → Calls Tryd.prog 21 #[.agg #[u, .int .i64 0], .agg #[.int .i64 b.1, v1]] w' (AppPost w' (L ++ frameL b) 0)) :=
        fun w' hb => append_any _ v1 L 0 b.1 b.2 m w' ⟨u, rfl, hu.down hb⟩ ⟨by omega, by omega, by omega⟩ (e1.down hb) hgood (by omega) (moved HM.out (bt hbel hb) (Nat.le_refl _))
      have hz := ht.2.2
      obtain ⟨c0, c1, f0, f1⟩ := ht.two
      obtain ⟨D, hD⟩ : ∃ D, D = L ++ frameL b := ⟨_, rfl⟩
      have hDL : D.length = L.length + (frameL b).length := by rw [hD, List.length_append]
      rw [← hD] at hA htk
      have hcmp : decide (D.length ≤ L.length) = false := decide_eq_false (by omega)
      have hcmp2 : decide ((D.length : Int) ≤ L.length) = false := decide_eq_false (by omega)
      obtain ⟨ua, uc, hu1, _⟩ := hu
      subst hu1
      have HB := Lib.hid hbel; have HR := Lib.hid hr; have HT := Lib.hid ht; have HTK := Lib.hid htk
      subst hG
      have hdn : D ≠ [] := by intro e; rw [e] at hDL; simp at hDL; omega
      clear e1 hbel hr ht htk hDL hD htl hL hgood hfp hlen hne
      have hDn : Hid (D ≠ []) := hdn
      have hH : Hid (∀ w' : World, Has (w'.alloc (.cells #[.slice none 0 0, .int .i64 0] 42)) w'.heap.size [.slice none 0 0, .int .i64 0]) := fun w' => Has.alloc w' [.slice none 0 0, .int .i64 0] 42
      clear hdn
      have hda := ba (Below.refl wr.heap.size wr) (.cells #[.slice none 0 0, .int .i64 0] 42)
      have m0a := moved m0 hda (Nat.le_refl _); have m1a := moved m1 hda (Nat.le_refl _); have c0a := moved c0 hda (Nat.le_refl _); have c1a := moved c1 hda (Nat.le_refl _)
      clear hda
      go_upto_region 5 with fail
      go_cut [6, 7] (NextAt (w.heap.size + 1) D wr)
      case first =>
        go_region_with (go_at_call 21; refine (hA.out _ (by first | exact hdr | exact ba hdr _)).mono ?_; rintro e w3 ⟨⟨u3, rfl, hu3, hf3⟩, hb3⟩; have hu4 := hu3; obtain ⟨ua3, uc3, rfl, _⟩ := hu4; first | (have kk : Has w3 wr.heap.size [.slice none 0 0, .int .i64 0] := (hH.out wr.drew).down hb3; obtain ⟨k0, k1, k2, k3⟩ := kk.two) | (have kk := trivial))
        all_goals
          go_wp2_with fail
          go_meet
          case rel => first
            | exact next_new hz hu3 hf3 (hdr.trans hb3)
            | exact next_at hz (Nat.le_refl _) kk hu3 (fun k e => by have h9 : wr.heap.size + 1 ≤ k := by simpa using hf3 k e
                                                                     omega) (fun k e => by have h9 : wr.heap.size + 1 ≤ k := by simpa using hf3 k e
                                                                                           omega) (bt (ba hdr _) hb3)
      case rest =>
        obtain ⟨R, u3, rfl, rfl, hR, hx, hu3, hf3, hb3⟩ := hcut
        have ht3 := HT.out.down hb3
        obtain ⟨d0, d1, _, _⟩ := hx.two
        obtain ⟨e0, e1, g0, g1⟩ := ht3.two
        have hsz := hb3.size
        obtain ⟨ua3, uc3, hu3e, _⟩ := id hu3
        subst hu3e
        have HU3 := Lib.hid hu3; have HX := Lib.hid hx; have HT3 := Lib.hid ht3; have HR3 := Lib.hid (HR.out.down hb3); have HB3 := Lib.hid (bt HB.out hb3); have HF3 := Lib.hid hf3
        clear hu3 hx ht3 hb3 hf3 m0 m1 c0 c1 f0 f1 m0a m1a c0a c1a hdr
        go_wp2_with fail
        go_roundw
        case rel => exact ⟨j + 1, _, by omega, by go_num, (HB3.out.setCell (p := ⟨w.heap.size + 1, 0, none⟩) (by show w.heap.size ≤ w.heap.size + 1; omega) _).setCell (p := ⟨w.heap.size + 1, 1, none⟩) (by show w.heap.size ≤ w.heap.size + 1; omega) _,
          (HR3.out.else' (by omega) _).else' (by omega) _, (HT3.out.set' (i := 0) _ (by simp)).set' (i := 1) (.int .i64 0) (by simp), by rw [HTK.out]; exact (HU3.out.set2 (fun k e => by have := HF3.out k e; omega)).set2 (fun k e => by have := HF3.out k e; omega), fun k e => by have := HF3.out k e; omega⟩
        case measure => simp [intOf]; omega
    · obtain rfl : j = bs.length := by omega
      rw [List.take_length] at hu
      obtain ⟨c0, c1, f0, f1⟩ := ht.two
      obtain ⟨d0, d1, g0, g1⟩ := hr.two
      have HB := Lib.hid hbel; have HR := Lib.hid hr; have HU := Lib.hid hu; have HNE := Lib.hid hne
      have hz2 := ht.2.2
      obtain ⟨ua, uc, hu1, _⟩ := hu
      subst hu1
      clear hbel hr ht hne
      go_wp2_with fail
      refine taped_end (R := w.heap.size) ?_ ?_ ?_ ((HR.out.set' (i := 0) _ (by simp)).set' (i := 1) (.int .i64 0) (by simp)) ((HU.out.set2 (fun k e => (HNE.out k e).1)).set2 (fun k e => (HNE.out k e).1)) ((HB.out.setCell (p := ⟨w.heap.size, 0, none⟩) (Nat.le_refl _) _).setCell (p := ⟨w.heap.size, 1, none⟩) (Nat.le_refl _) _) <;> rfl
end Go.Proofs.YtdobigkhilimlaaDoor
