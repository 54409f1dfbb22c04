/-
  DERIVED. The law LineDots: its plain side and its walk.
-/
import Derived.Test.YtpekkebmdhpbeaaDoorReady
import Derived.Test.YtpekkebmdhpbeaaDoorRows2
import Derived.Deep.QuietTactic
import Derived.BigQuiet
namespace Go.Proofs.YtpekkebmdhpbeaaDoor
open Go.RowKit

def dotsL (k : Nat) (u : List UInt8) : List UInt8 := List.replicate k 46 ++ u
def dotsW (k : Nat) (u : List UInt8) : List UInt8 := if 0 < k then (dotsL k u).tail else dotsL k u
theorem word_no46 (l : List UInt8) : (46 : UInt8) ∉ wordL l := fun h => absurd (List.all_eq_true.1 (word_atoms l) _ h) (by decide)
theorem word_head46 (l : List UInt8) : (wordL l).head? ≠ some 46 := fun h => word_no46 l (List.mem_of_mem_head? h)
theorem dots_body (f t : Ad) (k : Nat) (l : List UInt8) (hk : k < 20) (known : List (List UInt8)) :
    lineS (rdyS f t 4) known (dotsL k (wordL l)) = (⟨4, f, [t], dotsW k (wordL l) ++ [13, 10], false⟩, 0, []) := by
  have h1 := wordL_len8 l; have h2 := wordL_pos l; have h3 := word_head46 l
  have hne : dotsL k (wordL l) ≠ [46] := by
    intro e
    have hl : (dotsL k (wordL l)).length = 1 := by rw [e]; rfl
    unfold dotsL at hl
    rw [List.length_append, List.length_replicate] at hl
    have hk0 : k = 0 := by omega
    subst hk0
    exact word_no46 l (by rw [show wordL l = [46] from e]; exact List.mem_singleton_self _)
  rw [show rdyS f t 4 = (⟨4, f, [t], [], false⟩ : Ses) from rfl, lineB rfl hne]
  have hw : (if (dotsL k (wordL l)).head? = some 46 then (dotsL k (wordL l)).tail else dotsL k (wordL l)) = dotsW k (wordL l) := by
    unfold dotsW
    cases k with
    | zero => rw [if_neg (show ¬ (dotsL 0 (wordL l)).head? = some 46 from h3), if_neg (by omega)]
    | succ k => rw [if_pos (show (dotsL (k + 1) (wordL l)).head? = some 46 from rfl), if_pos (by omega)]
  have hlen : (dotsW k (wordL l)).length ≤ 28 := by
    unfold dotsW
    split
    · rw [List.length_tail, dotsL, List.length_append, List.length_replicate]; omega
    · rw [dotsL, List.length_append, List.length_replicate]; omega
  unfold bodyS
  simp only [hw, List.length_nil, Bool.false_or, List.nil_append]
  rw [show decide (2000 < 0 + (dotsW k (wordL l)).length + 2) = false from decide_eq_false (by omega)]
  rfl
theorem dots_end (f t : Ad) (tx : List UInt8) (known : List (List UInt8)) : lineS ⟨4, f, [t], tx, false⟩ known [46] = (ses0 1, 0, [(f, t, tx)]) := lineE rfl
theorem dots_len (k : Nat) (l : List UInt8) (hk : k < 20) : (dotsL k (wordL l)).length ≤ 28 ∧ (dotsW k (wordL l) ++ [13, 10]).length ≤ 30 := by
  have h1 := wordL_len8 l
  have h2 : (dotsL k (wordL l)).length ≤ 28 := by rw [dotsL, List.length_append, List.length_replicate]; omega
  refine ⟨h2, ?_⟩
  rw [List.length_append]
  show _ + 2 ≤ 30
  unfold dotsW
  split
  · rw [List.length_tail]; omega
  · omega
theorem dots_good (l d l' d' : List UInt8) (k : Nat) (s : List UInt8) (hk : k < 20) : GoodSes ⟨4, zAd l d, [zAd l' d'], dotsW k (wordL s) ++ [13, 10], false⟩ := by
  have h := rdy_good l d l' d' 4
  exact ⟨h.step, h.some', Nat.le_trans (dots_len k s hk).2 (by decide), h.frm, h.rcp, h.ok, h.names, fun e => absurd rfl e⟩
theorem LinePost.form1 {s : Ses} {z : Int} {x : Lt} {w w' : World} {e : Ending} (h : LinePost (s, z, [x]) w e w') : ∃ G c g off cl, e = .returned (.tuple #[.agg #[.int .i64 s.step, .string ⟨s.frm.1.toArray⟩, .string ⟨s.frm.2.toArray⟩, .slice G s.rcp.length c, .string ⟨s.text.toArray⟩, .bool s.large], .int .i64 z, .slice (some ⟨g, off, none⟩) 1 cl, .int .i64 0]) ∧
    SAt cAd w' (fun b => w.heap.size ≤ b) (.slice G s.rcp.length c) s.rcp ∧ (w'.cell? ⟨g, off, none⟩ = some (.string ⟨x.1.1.toArray⟩) ∧ w'.cell? ⟨g, off + 1, none⟩ = some (.string ⟨x.1.2.toArray⟩) ∧ w'.cell? ⟨g, off + 2, none⟩ = some (.string ⟨x.2.1.1.toArray⟩) ∧ w'.cell? ⟨g, off + 3, none⟩ = some (.string ⟨x.2.1.2.toArray⟩) ∧ w'.cell? ⟨g, off + 4, none⟩ = some (.string ⟨x.2.2.toArray⟩)) ∧ w.heap.size ≤ g ∧ Below w.heap.size w w' := by
  obtain ⟨G, c, Gl, cl, h1, h2, h3, h4⟩ := h.form
  obtain ⟨g, off, vs, hG, hF, hg, hv, hc⟩ := h3.get 0 (by show 0 < 1; omega)
  obtain rfl : vs = letC x := hv
  subst hG
  refine ⟨G, c, g, off, cl, h1, h2, ⟨?_, ?_, ?_, ?_, ?_⟩, hF, h4⟩
  · simpa using hc 0 _ rfl
  · simpa using hc 1 _ rfl
  · simpa using hc 2 _ rfl
  · simpa using hc 3 _ rfl
  · simpa using hc 4 _ rfl
theorem dot_snoc (j : Nat) : (⟨(List.replicate j (46 : UInt8)).toArray⟩ : ByteArray) ++ ⟨#[46]⟩ = ⟨(List.replicate (j + 1) 46).toArray⟩ := by
  rw [← Lib.mk_data ((⟨(List.replicate j (46 : UInt8)).toArray⟩ : ByteArray) ++ ⟨#[46]⟩)]
  congr 2
  rw [List.replicate_succ']
  rfl
theorem two_bytes (p q : List UInt8) : (⟨p.toArray⟩ : ByteArray) ++ ⟨q.toArray⟩ = ⟨(p ++ q).toArray⟩ := by
  rw [← Lib.mk_data ((⟨p.toArray⟩ : ByteArray) ++ ⟨q.toArray⟩)]
  congr 2

theorem ext_tail (L : List UInt8) : (⟨L.toArray⟩ : ByteArray).extract 1 L.length ++ ⟨#[13, 10]⟩ = ⟨(L.tail ++ [13, 10]).toArray⟩ := by
  rw [Go.Lib.extract_eq]
  have e : (L.drop 1).take (L.length - 1) = L.tail := by rw [List.drop_one, List.take_of_length_le (by rw [List.length_tail]; omega)]
  show (⟨((L.drop 1).take (L.length - 1)).toArray⟩ : ByteArray) ++ ⟨#[13, 10]⟩ = _
  rw [e]
  exact two_bytes L.tail [13, 10]

set_option maxHeartbeats 4000000 in
set_option maxRecDepth 20000 in
theorem lineDots_walk (a0 a1 a2 b0 b1 b2 : ByteArray) (G : Option Addr) (n c : Nat) (x : Nat → Nat → ByteArray) (bo : ByteArray) (z : Int) (sx : ByteArray) (m : Int) (w : World) (h0 : a0.size ≤ maxLen) (h1 : a1.size ≤ maxLen) (_h2 : a2.size ≤ maxLen) (k0 : b0.size ≤ maxLen) (k1 : b1.size ≤ maxLen) (_k2 : b2.size ≤ maxLen) (_hx : StrRows w G n 2 x ∧ n ≤ maxLen) (_hbo : bo.size ≤ maxLen) (hz : -9223372036854775808 ≤ z ∧ z ≤ 9223372036854775807) (hsx : sx.size ≤ maxLen) (hm : w.cell? ⟨0, 0, none⟩ = some (.int .i64 m)) :
    Calls Tryd.prog 7 #[.agg #[.string a0, .string a1, .string a2, .string b0, .string b1, .string b2, .slice G n c, .string bo], .int .i64 z, .string sx] w fun e w' => e = .returned (.bool true) ∧ Below w.heap.size w w' := by
  obtain ⟨hz1, hz2⟩ := hz
  clear _hx
  have hA := ba (Below.refl w.heap.size w) (.cells #[.string a0, .string a1, .string a2, .string b0, .string b1, .string b2, .slice G n c, .string bo] 26)
  have hRD := ready_any a0 a1 a2 b0 b1 b2 G n c bo m (w.alloc (.cells #[.string a0, .string a1, .string a2, .string b0, .string b1, .string b2, .slice G n c, .string bo] 26)) h0 h1 k0 k1 (moved hm hA (Nat.le_refl _))
  have HPK : Hid (∀ w, Calls Tryd.prog 11 #[.int .i64 z, .int .i64 20] w fun e w' => e = .returned (.int .i64 (pick z (20 : Nat))) ∧ w = w') := fun w => picked_any z 20 w hz1 hz2 (by omega) (by omega)
  have hk20 := pick_lt z 20 (by omega)
  obtain ⟨k, hk⟩ : ∃ k, k = pick z (20 : Nat) := ⟨_, rfl⟩
  rw [← hk] at HPK hk20
  unfold maxLen at hsx
  have HWD := Lib.hid (fun w => word_any sx w hsx)
  have hgood1 := rdy_good a0.data.toList a1.data.toList b0.data.toList b1.data.toList 4
  have hgood2 := dots_good a0.data.toList a1.data.toList b0.data.toList b1.data.toList k sx.data.toList hk20
  obtain ⟨f, hf⟩ : ∃ f, f = zAd a0.data.toList a1.data.toList := ⟨_, rfl⟩
  obtain ⟨t, ht⟩ : ∃ t, t = zAd b0.data.toList b1.data.toList := ⟨_, rfl⟩
  rw [← hf, ← ht] at hRD hgood1 hgood2
  have hbody := dots_body f t k sx.data.toList hk20 []
  have hend := dots_end f t (dotsW k (wordL sx.data.toList) ++ [13, 10]) []
  have hlen := dots_len k sx.data.toList hk20
  have hul := wordL_len8 sx.data.toList
  have hdl : ∀ (v : Value) (F : Dom) (w1 : World), SAt cAd w1 F v [t] → w1.cell? ⟨0, 0, none⟩ = some (.int .i64 m) → Calls Tryd.prog 10 #[.agg #[.int .i64 4, .string ⟨f.1.toArray⟩, .string ⟨f.2.toArray⟩, v, .string ⟨#[]⟩, .bool false], .slice none 0 0, .string ⟨(dotsL k (wordL sx.data.toList)).toArray⟩] w1 (LinePost (⟨4, f, [t], dotsW k (wordL sx.data.toList) ++ [13, 10], false⟩, 0, []) w1) := by
    intro v F w1 hv hm1
    rw [← hbody]
    exact line_any (rdyS f t 4) v F _ [] (fun _ => True) _ m w1 hv hgood1 (SAt.nil _ _ _) (by show 0 ≤ 1000; omega) (by omega) hm1
  have hde : ∀ (v : Value) (F : Dom) (w1 : World), SAt cAd w1 F v [t] → w1.cell? ⟨0, 0, none⟩ = some (.int .i64 m) → Calls Tryd.prog 10 #[.agg #[.int .i64 4, .string ⟨f.1.toArray⟩, .string ⟨f.2.toArray⟩, v, .string ⟨(dotsW k (wordL sx.data.toList) ++ [13, 10]).toArray⟩, .bool false], .slice none 0 0, .string ⟨#[46]⟩] w1 (LinePost (ses0 1, 0, [(f, t, dotsW k (wordL sx.data.toList) ++ [13, 10])]) w1) := by
    intro v F w1 hv hm1
    rw [← hend]
    exact line_any ⟨4, f, [t], dotsW k (wordL sx.data.toList) ++ [13, 10], false⟩ v F _ [] (fun _ => True) [46] m w1 hv hgood2 (SAt.nil _ _ _) (by show 0 ≤ 1000; omega) (by show 1 ≤ 100000; omega) hm1
  have HRD := Lib.hid hRD; have HDL := Lib.hid hdl; have HDE := Lib.hid hde
  have HWT := Lib.hid (show ∀ u, dotsW k u = if 0 < k then (dotsL k u).tail else dotsL k u from fun _ => rfl)
  obtain ⟨u, hu⟩ : ∃ u, u = wordL sx.data.toList := ⟨_, rfl⟩
  rw [← hu] at hul HWD HDL HDE
  obtain ⟨tx, htx⟩ : ∃ tx, tx = dotsW k u ++ [13, 10] := ⟨_, rfl⟩
  rw [← htx] at HDL HDE
  have HTX := Lib.hid htx
  have HA := Lib.hid hA; have HM := Lib.hid hm
  clear hA hRD hk hgood1 hgood2 hf ht hbody hend hlen hdl hde hu htx hm hsx
  go_enter Tryd.func7, Tryd.ntmps7
  go_wp2_with fail
  refine HRD.out.mono ?_
  intro e w1 hp
  obtain ⟨⟨G1, c1, rfl, hv1⟩, hb1⟩ := hp
  have hB1 := bt HA.out hb1
  have HB1 := Lib.hid hB1; have HM1 := Lib.hid (moved HM.out hB1 (Nat.le_refl _)); have HV1 := Lib.hid hv1
  clear hb1 hB1 hv1 HRD HA HM
  go_wp2_with fail
  refine (HPK.out _).mono ?_
  rintro e w2 ⟨rfl, rfl⟩
  clear HPK
  go_wp2_with fail
  have hA3 := ba (Below.refl w1.heap.size w1) (.cells #[.int .i64 4, .string ⟨f.1.toArray⟩, .string ⟨f.2.toArray⟩, .slice G1 1 c1, .string ⟨#[]⟩, .bool false] 33)
  have HS3 : Hid (Has (w1.alloc (.cells #[.int .i64 4, .string ⟨f.1.toArray⟩, .string ⟨f.2.toArray⟩, .slice G1 1 c1, .string ⟨#[]⟩, .bool false] 33)) w1.heap.size [.int .i64 4, .string ⟨f.1.toArray⟩, .string ⟨f.2.toArray⟩, .slice G1 1 c1, .string ⟨#[]⟩, .bool false]) := Has.alloc w1 _ _
  have HV3 := Lib.hid (HV1.out.down hA3); have HB3 := Lib.hid (bt HB1.out hA3); have HM3 := Lib.hid (moved HM1.out hA3 (Nat.le_refl _))
  obtain ⟨W3, hW3⟩ : ∃ W3, W3 = w1.alloc (.cells #[.int .i64 4, .string ⟨f.1.toArray⟩, .string ⟨f.2.toArray⟩, .slice G1 1 c1, .string ⟨#[]⟩, .bool false] 33) := ⟨_, rfl⟩
  rw [← hW3] at HS3 HV3 HB3 HM3 ⊢
  obtain ⟨S, hS⟩ : ∃ S, S = w1.heap.size := ⟨_, rfl⟩
  rw [← hS] at HS3 ⊢
  clear hW3 hA3 HV1 HB1 HM1 hS
  go_loop [10, 11] (fun l i => ∃ j : Nat, j ≤ k ∧ i = .int .i64 j ∧ l = .string ⟨(List.replicate j 46).toArray⟩) (fun _ i => k - (intOf i).toNat)
  case atStart => exact ⟨0, Nat.zero_le _, rfl, rfl⟩
  case round =>
    obtain ⟨j, hj, rfl, rfl⟩ := hrel
    have hlen : (List.replicate j (46 : UInt8)).length ≤ 20 := by rw [List.length_replicate]; omega
    by_cases hlt : j < k
    · have HC := Lib.hid (dot_snoc j)
      obtain ⟨l, hl⟩ : ∃ l, l = List.replicate j (46 : UInt8) := ⟨_, rfl⟩
      rw [← hl] at HC hlen ⊢
      have hsz : (⟨l.toArray⟩ : ByteArray).size ≤ 20 := hlen
      clear hl
      go_wp2_with fail
      go_round
      case rel => exact ⟨j + 1, by omega, by go_num, by rw [← HC.out]⟩
      case measure => simp [intOf]; omega
    · obtain rfl : j = k := by omega
      have HC : Hid ((⟨(List.replicate j (46 : UInt8)).toArray⟩ : ByteArray) ++ ⟨u.toArray⟩ = ⟨(dotsL j u).toArray⟩) := two_bytes _ _
      have hdl : (dotsL j u).length ≤ 28 := by rw [dotsL, List.length_append, List.length_replicate]; omega
      obtain ⟨l, hl⟩ : ∃ l, l = List.replicate j (46 : UInt8) := ⟨_, rfl⟩
      rw [← hl] at HC hlen ⊢
      have hsz : (⟨l.toArray⟩ : ByteArray).size ≤ 20 := hlen
      have hus : (⟨u.toArray⟩ : ByteArray).size ≤ 8 := hul
      clear hl
      go_wp2_with fail
      refine (HWD.out _).mono ?_
      rintro e w4 ⟨rfl, hb4⟩
      have HB4 := Lib.hid (bt HB3.out hb4); have HV4 := Lib.hid (HV3.out.down hb4); have HM4 := Lib.hid (moved HM3.out hb4 (Nat.le_refl _))
      have hs4 := HS3.out.down hb4
      obtain ⟨c0, c1', c2, c3, c4, c5⟩ := hs4.six
      clear hb4 HV3 HB3 HM3 HS3 HWD hs4
      go_wp2_with fail
      rw [HC.out]
      refine (HDL.out _ _ _ HV4.out HM4.out).mono ?_
      intro e w5 hp
      have h5 : ∃ Ga ca Gl cl, e = .returned (.tuple #[.agg #[.int .i64 4, .string ⟨f.1.toArray⟩, .string ⟨f.2.toArray⟩, .slice Ga 1 ca, .string ⟨tx.toArray⟩, .bool false], .int .i64 0, .slice Gl 0 cl, .int .i64 0]) ∧ SAt cAd w5 (fun b => w4.heap.size ≤ b) (.slice Ga 1 ca) [t] ∧ Below w4.heap.size w4 w5 := hp.form3
      obtain ⟨Ga, ca, Gl, cl, rfl, hv5, hb5⟩ := h5
      have hA5 := ba (Below.refl w5.heap.size w5) (.cells #[.int .i64 4, .string ⟨f.1.toArray⟩, .string ⟨f.2.toArray⟩, .slice Ga 1 ca, .string ⟨tx.toArray⟩, .bool false] 33)
      have HS5 : Hid (Has (w5.alloc (.cells #[.int .i64 4, .string ⟨f.1.toArray⟩, .string ⟨f.2.toArray⟩, .slice Ga 1 ca, .string ⟨tx.toArray⟩, .bool false] 33)) w5.heap.size [.int .i64 4, .string ⟨f.1.toArray⟩, .string ⟨f.2.toArray⟩, .slice Ga 1 ca, .string ⟨tx.toArray⟩, .bool false]) := Has.alloc w5 _ _
      have HV5 := Lib.hid (hv5.down hA5); have HB5 := Lib.hid (bt (bt HB4.out hb5) hA5); have HM5 := Lib.hid (moved HM4.out (bt hb5 hA5) (Nat.le_refl _))
      clear hp hv5 hb5 hA5 HV4 HB4 HM4 HDL HC hsz hus hlen
      by_cases hk0 : 0 < j
      · have hkI : decide ((0 : Int) < j) = true := decide_eq_true (by omega)
        have HW : Hid (tx = (dotsL j u).tail ++ [13, 10]) := by unfold Hid; rw [HTX.out, HWT.out, if_pos hk0]
        obtain ⟨L, hL⟩ : ∃ L, L = dotsL j u := ⟨_, rfl⟩
        rw [← hL] at HW hdl ⊢
        have hLpos : 1 ≤ L.length := by rw [hL, dotsL, List.length_append, List.length_replicate]; omega
        have hLs : (⟨L.toArray⟩ : ByteArray).size = L.length := rfl
        have HLS := Lib.hid hLs
        have hlb : 1 ≤ (⟨L.toArray⟩ : ByteArray).size := hLpos
        have hub : (⟨L.toArray⟩ : ByteArray).size ≤ 28 := hdl
        clear hL hLs HTX HWT
        go_wp2_with fail
        refine (HDE.out _ _ _ HV5.out HM5.out).mono ?_
        intro e w7 hp
        have h7 : ∃ Gb cb g off cl7, e = .returned (.tuple #[.agg #[.int .i64 1, .string ⟨#[]⟩, .string ⟨#[]⟩, .slice Gb 0 cb, .string ⟨#[]⟩, .bool false], .int .i64 0, .slice (some ⟨g, off, none⟩) 1 cl7, .int .i64 0]) ∧ SAt cAd w7 (fun b => (w5.alloc (.cells #[.int .i64 4, .string ⟨f.1.toArray⟩, .string ⟨f.2.toArray⟩, .slice Ga 1 ca, .string ⟨tx.toArray⟩, .bool false] 33)).heap.size ≤ b) (.slice Gb 0 cb) [] ∧ (w7.cell? ⟨g, off, none⟩ = some (.string ⟨f.1.toArray⟩) ∧ w7.cell? ⟨g, off + 1, none⟩ = some (.string ⟨f.2.toArray⟩) ∧ w7.cell? ⟨g, off + 2, none⟩ = some (.string ⟨t.1.toArray⟩) ∧ w7.cell? ⟨g, off + 3, none⟩ = some (.string ⟨t.2.toArray⟩) ∧ w7.cell? ⟨g, off + 4, none⟩ = some (.string ⟨tx.toArray⟩)) ∧ (w5.alloc (.cells #[.int .i64 4, .string ⟨f.1.toArray⟩, .string ⟨f.2.toArray⟩, .slice Ga 1 ca, .string ⟨tx.toArray⟩, .bool false] 33)).heap.size ≤ g ∧ Below (w5.alloc (.cells #[.int .i64 4, .string ⟨f.1.toArray⟩, .string ⟨f.2.toArray⟩, .slice Ga 1 ca, .string ⟨tx.toArray⟩, .bool false] 33)).heap.size (w5.alloc (.cells #[.int .i64 4, .string ⟨f.1.toArray⟩, .string ⟨f.2.toArray⟩, .slice Ga 1 ca, .string ⟨tx.toArray⟩, .bool false] 33)) w7 := hp.form1
        obtain ⟨Gb, cb, g, off, cl7, rfl, -, ⟨-, -, -, -, q4⟩, -, hb7⟩ := h7
        obtain ⟨-, -, -, -, d4, -⟩ := (HS5.out.down hb7).six
        have HE := Lib.hid (bt HB5.out hb7)
        obtain ⟨N, hN⟩ : ∃ N, N = w5.heap.size := ⟨_, rfl⟩
        rw [← hN] at d4
        clear hp hb7 HS5 HV5 HB5 HM5 HDE c0 c1' c2 c3 c4 c5
        go_upto_region 14 with fail
        rw [← hN]
        clear hN
        have HX : Hid ((⟨L.toArray⟩ : ByteArray).extract 1 L.length ++ ⟨#[13, 10]⟩ = ⟨tx.toArray⟩) := by unfold Hid; rw [HW.out]; exact ext_tail L
        have hXs : ((⟨L.toArray⟩ : ByteArray).extract 1 L.length).size ≤ 28 := by rw [ByteArray.size_extract]; omega
        obtain ⟨X, hX⟩ : ∃ X, X = (⟨L.toArray⟩ : ByteArray).extract 1 L.length := ⟨_, rfl⟩
        rw [← hX] at HX hXs ⊢
        clear hX
        have hA8 := ba (Below.refl w7.heap.size w7) (.cells #[.int .i64 1, .string ⟨#[]⟩, .string ⟨#[]⟩, .slice Gb 0 cb, .string ⟨#[]⟩, .bool false] 33)
        obtain ⟨e0, -, -, -, -, -⟩ := (show Has (w7.alloc (.cells #[.int .i64 1, .string ⟨#[]⟩, .string ⟨#[]⟩, .slice Gb 0 cb, .string ⟨#[]⟩, .bool false] 33)) w7.heap.size [.int .i64 1, .string ⟨#[]⟩, .string ⟨#[]⟩, .slice Gb 0 cb, .string ⟨#[]⟩, .bool false] from Has.alloc w7 _ _).six
        replace d4 := moved d4 hA8 (Nat.le_refl _); replace q4 := moved q4 hA8 (Nat.le_refl _)
        have HE8 := Lib.hid (bt HE.out hA8)
        obtain ⟨W8, hW8⟩ : ∃ W8, W8 = w7.alloc (.cells #[.int .i64 1, .string ⟨#[]⟩, .string ⟨#[]⟩, .slice Gb 0 cb, .string ⟨#[]⟩, .bool false] 33) := ⟨_, rfl⟩
        obtain ⟨E, hE⟩ : ∃ E, E = w7.heap.size := ⟨_, rfl⟩
        rw [← hW8] at HE8 d4 q4 e0 ⊢
        rw [← hE] at e0 ⊢
        clear hW8 hE hA8 HE
        obtain ⟨TX, hTX⟩ : ∃ TX : ByteArray, TX = ⟨tx.toArray⟩ := ⟨_, rfl⟩
        rw [← hTX] at HX d4 q4
        have heq : (TX.toList == (X ++ ⟨#[13, 10]⟩).toList) = true := by rw [HX.out]; exact beq_self_eq_true _
        clear hTX
        go_quiet (fail)
        go_wp2
        go_ret
        exact ⟨rfl, bt HE8.out (below_drewN _ _)⟩
      · have hkI : decide ((0 : Int) < j) = false := decide_eq_false (by omega)
        have HW : Hid (tx = dotsL j u ++ [13, 10]) := by unfold Hid; rw [HTX.out, HWT.out, if_neg hk0]
        obtain ⟨L, hL⟩ : ∃ L, L = dotsL j u := ⟨_, rfl⟩
        rw [← hL] at HW hdl ⊢
        skip
        have hLs : (⟨L.toArray⟩ : ByteArray).size = L.length := rfl
        have HLS := Lib.hid hLs
        skip
        have hub : (⟨L.toArray⟩ : ByteArray).size ≤ 28 := hdl
        clear hL hLs HTX HWT
        go_wp2_with fail
        refine (HDE.out _ _ _ HV5.out HM5.out).mono ?_
        intro e w7 hp
        have h7 : ∃ Gb cb g off cl7, e = .returned (.tuple #[.agg #[.int .i64 1, .string ⟨#[]⟩, .string ⟨#[]⟩, .slice Gb 0 cb, .string ⟨#[]⟩, .bool false], .int .i64 0, .slice (some ⟨g, off, none⟩) 1 cl7, .int .i64 0]) ∧ SAt cAd w7 (fun b => (w5.alloc (.cells #[.int .i64 4, .string ⟨f.1.toArray⟩, .string ⟨f.2.toArray⟩, .slice Ga 1 ca, .string ⟨tx.toArray⟩, .bool false] 33)).heap.size ≤ b) (.slice Gb 0 cb) [] ∧ (w7.cell? ⟨g, off, none⟩ = some (.string ⟨f.1.toArray⟩) ∧ w7.cell? ⟨g, off + 1, none⟩ = some (.string ⟨f.2.toArray⟩) ∧ w7.cell? ⟨g, off + 2, none⟩ = some (.string ⟨t.1.toArray⟩) ∧ w7.cell? ⟨g, off + 3, none⟩ = some (.string ⟨t.2.toArray⟩) ∧ w7.cell? ⟨g, off + 4, none⟩ = some (.string ⟨tx.toArray⟩)) ∧ (w5.alloc (.cells #[.int .i64 4, .string ⟨f.1.toArray⟩, .string ⟨f.2.toArray⟩, .slice Ga 1 ca, .string ⟨tx.toArray⟩, .bool false] 33)).heap.size ≤ g ∧ Below (w5.alloc (.cells #[.int .i64 4, .string ⟨f.1.toArray⟩, .string ⟨f.2.toArray⟩, .slice Ga 1 ca, .string ⟨tx.toArray⟩, .bool false] 33)).heap.size (w5.alloc (.cells #[.int .i64 4, .string ⟨f.1.toArray⟩, .string ⟨f.2.toArray⟩, .slice Ga 1 ca, .string ⟨tx.toArray⟩, .bool false] 33)) w7 := hp.form1
        obtain ⟨Gb, cb, g, off, cl7, rfl, -, ⟨-, -, -, -, q4⟩, -, hb7⟩ := h7
        obtain ⟨-, -, -, -, d4, -⟩ := (HS5.out.down hb7).six
        have HE := Lib.hid (bt HB5.out hb7)
        obtain ⟨N, hN⟩ : ∃ N, N = w5.heap.size := ⟨_, rfl⟩
        rw [← hN] at d4
        clear hp hb7 HS5 HV5 HB5 HM5 HDE c0 c1' c2 c3 c4 c5
        go_upto_region 14 with fail
        rw [← hN]
        clear hN
        have HX : Hid ((⟨L.toArray⟩ : ByteArray) ++ ⟨#[13, 10]⟩ = ⟨tx.toArray⟩) := by unfold Hid; rw [HW.out]; exact two_bytes L [13, 10]
        have hXs : (⟨L.toArray⟩ : ByteArray).size ≤ 28 := hub
        obtain ⟨X, hX⟩ : ∃ X : ByteArray, X = ⟨L.toArray⟩ := ⟨_, rfl⟩
        rw [← hX] at HX hXs ⊢
        clear hX
        have hA8 := ba (Below.refl w7.heap.size w7) (.cells #[.int .i64 1, .string ⟨#[]⟩, .string ⟨#[]⟩, .slice Gb 0 cb, .string ⟨#[]⟩, .bool false] 33)
        obtain ⟨e0, -, -, -, -, -⟩ := (show Has (w7.alloc (.cells #[.int .i64 1, .string ⟨#[]⟩, .string ⟨#[]⟩, .slice Gb 0 cb, .string ⟨#[]⟩, .bool false] 33)) w7.heap.size [.int .i64 1, .string ⟨#[]⟩, .string ⟨#[]⟩, .slice Gb 0 cb, .string ⟨#[]⟩, .bool false] from Has.alloc w7 _ _).six
        replace d4 := moved d4 hA8 (Nat.le_refl _); replace q4 := moved q4 hA8 (Nat.le_refl _)
        have HE8 := Lib.hid (bt HE.out hA8)
        obtain ⟨W8, hW8⟩ : ∃ W8, W8 = w7.alloc (.cells #[.int .i64 1, .string ⟨#[]⟩, .string ⟨#[]⟩, .slice Gb 0 cb, .string ⟨#[]⟩, .bool false] 33) := ⟨_, rfl⟩
        obtain ⟨E, hE⟩ : ∃ E, E = w7.heap.size := ⟨_, rfl⟩
        rw [← hW8] at HE8 d4 q4 e0 ⊢
        rw [← hE] at e0 ⊢
        clear hW8 hE hA8 HE
        obtain ⟨TX, hTX⟩ : ∃ TX : ByteArray, TX = ⟨tx.toArray⟩ := ⟨_, rfl⟩
        rw [← hTX] at HX d4 q4
        have heq : (TX.toList == (X ++ ⟨#[13, 10]⟩).toList) = true := by rw [HX.out]; exact beq_self_eq_true _
        clear hTX
        go_quiet (fail)
        go_wp2
        go_ret
        exact ⟨rfl, bt HE8.out (below_drewN _ _)⟩
end Go.Proofs.YtpekkebmdhpbeaaDoor
