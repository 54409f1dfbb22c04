/-
  DERIVED. The laws on 'Match': their walks.
-/
import Derived.Test.YtlghlcekakbmnaaFoldTwice
namespace Go.Proofs.Ytlghlcekakbmnaa
open Go.RowKit

/-- Match at Matches, its answer known -/
theorem m3 (a p : List UInt8) (r : Bool) (hr : mt (pcs (foldL p)) (foldL a) = r) (ha : a.length ≤ 2000) (hp : p.length ≤ 100) (w : World) :
    Calls Try.prog 15 #[.int .i64 3, .string ⟨a.toArray⟩, .string ⟨p.toArray⟩] w fun e w' => e = .returned (.tuple #[.bool r, .int .i64 0]) ∧ Below w.heap.size w w' := by
  have := match3_any ⟨a.toArray⟩ ⟨p.toArray⟩ w ha hp
  simp only [hr] at this; exact this
theorem mk (t : List UInt8) (h : t.length ≤ 1000000) (w : World) :
    Calls Try.prog 14 #[.string ⟨t.toArray⟩] w fun e w' => e = .returned (.string ⟨(maskL t).toArray⟩) ∧ Below w.heap.size w w' := masked_any ⟨t.toArray⟩ w h
theorem app_mk (a b : List UInt8) : (⟨a.toArray⟩ : ByteArray) ++ (⟨b.toArray⟩ : ByteArray) = ⟨(a ++ b).toArray⟩ := by
  apply ByteArray.ext; simp
/-- an integer that is a byte -/
theorem wf_u8 {n : Int} (h : (Lit.int .u8 n).wf = true) : ∃ c : UInt8, n = (c.toNat : Int) := by
  have h1 : IntKind.u8.min = 0 := by decide
  have h2 : IntKind.u8.max = 255 := by decide
  simp only [Lit.wf, h1, h2, Bool.and_eq_true, decide_eq_true_eq] at h
  exact ⟨UInt8.ofNat n.toNat, by rw [UInt8.toNat_ofNat']; omega⟩
/-- 'string([]byte{c})' -/
theorem run_byte_str (W : World) (c : UInt8) : (convert 23 9 (.slice (some ⟨W.heap.size, 0, none⟩) 1 1)).run Try.prog (W.alloc (.cells #[.int .u8 (c.toNat : Int)] 5)) = .ok (.string ⟨#[c]⟩) (W.alloc (.cells #[.int .u8 (c.toNat : Int)] 5)) := by
  have h : OwnB (W.alloc (.cells #[.int .u8 (c.toNat : Int)] 5)) W.heap.size 5 (.slice (some ⟨W.heap.size, 0, none⟩) 1 1) [c] :=
    World.ownsRow_lit W #[.int .u8 (c.toNat : Int)] 1 (Nat.le_refl _) (by decide) rfl
  exact run_str_own h Try.underlying23 Try.underlying5 Try.underlying9

set_option maxHeartbeats 1000000 in
theorem matchSelfWalk (s : ByteArray) (m : Int) (w : World) (ws : s.size ≤ maxLen) (wm : (Lit.int .u8 m).wf = true) :
    Calls Try.prog 4 #[.string s, .int .u8 m] w fun e w' => e = .returned (.bool true) ∧ Below w.heap.size w w' := by
  unfold maxLen at ws
  obtain ⟨c, rfl⟩ := wf_u8 wm
  clear wm
  have ht := take_bd s 45 45 (Nat.le_refl _)
  have hcut := cut_any s 45 w ws (by omega) (by omega)
  rw [show (45 : Int).toNat = 45 from rfl] at hcut
  obtain ⟨t, hT⟩ : ∃ t, t = s.data.toList.take 45 := ⟨_, rfl⟩
  rw [← hT] at ht hcut
  clear hT
  have hml := maskL_length t
  have M1 := m3 t (maskL t) true (by rw [foldL_mask, pcs_mask]; exact mt_lits _) (by omega) (by omega)
  have M2 := m3 (t ++ [c]) (maskL t) false (by
    rw [foldL_mask, pcs_mask, Bool.eq_false_iff]
    intro h
    have h2 := congrArg List.length (mt_lits_of _ _ h)
    rw [foldL_length, foldL_length] at h2
    simp at h2) (by simp; omega) (by omega)
  rw [← app_mk] at M2
  have K := mk t (by omega)
  have kc := fun W => run_byte_str W c
  obtain ⟨q, hq⟩ : ∃ q, q = maskL t := ⟨_, rfl⟩
  rw [← hq] at M1 M2 K
  have hsz : (⟨t.toArray⟩ : ByteArray).size ≤ 45 := ht
  have HC := Lib.hid hcut; have H1 := Lib.hid M1; have H2 := Lib.hid M2; have HK := Lib.hid K
  clear hcut M1 M2 K hq hml
  go_enter Try.func4, Try.ntmps4
  go_wp2_with fail
  refine HC.out.mono ?_
  rintro e w1 ⟨rfl, rfl⟩
  go_wp2_with fail
  refine (HK.out _).mono ?_
  rintro e w1 ⟨rfl, hb1⟩
  go_wp2_with fail
  refine (H1.out _).mono ?_
  rintro e w2 ⟨rfl, hb2⟩
  go_wp2_with fail
  refine (H2.out _).mono ?_
  rintro e w3 ⟨rfl, hb3⟩
  go_wp2
  go_ret
  exact ⟨rfl, bt (ba (bt hb1 hb2) _) hb3⟩

/-- a text that was cut, under a name of its own -/
theorem cutN (s : ByteArray) (n : Nat) (hs : s.size ≤ maxLen) (hn : n ≤ 1000) : ∃ t : List UInt8, t.length ≤ n ∧ ∀ w, Calls Try.prog 13 #[.string s, .int .i64 (n : Int)] w fun e w' => e = .returned (.string ⟨t.toArray⟩) ∧ w = w' := by
  unfold maxLen at hs
  refine ⟨s.data.toList.take n, List.length_take_le _ _, fun w => ?_⟩
  have := cut_any s (n : Int) w hs (by omega) (by omega)
  rwa [Int.toNat_natCast] at this

set_option maxHeartbeats 2000000 in
theorem matchStarWalk (s t u : ByteArray) (w : World) (ws : s.size ≤ maxLen) (wt : t.size ≤ maxLen) (wu : u.size ≤ maxLen) :
    Calls Try.prog 5 #[.string s, .string t, .string u] w fun e w' => e = .returned (.bool true) ∧ Below w.heap.size w w' := by
  obtain ⟨a, hal, ca⟩ := cutN s 20 ws (by omega)
  obtain ⟨b, hbl, cb⟩ := cutN t 20 wt (by omega)
  obtain ⟨c, hcl, cc⟩ := cutN u 20 wu (by omega)
  have ma := maskL_length a
  have mb := maskL_length b
  have mc := maskL_length c
  have M1 := m3 a [42] true (mt_star_all _) (by omega) (by simp)
  have M2 := m3 (a ++ b) (maskL a ++ [42]) true (by
    rw [foldL_app, foldL_app, foldL_mask, pcs_mask_app, mt_lits_pre]; exact mt_star_all _) (by simp; omega) (by simp; omega)
  have M3 := m3 (a ++ b) ([42] ++ maskL b) true (by
    rw [foldL_app, foldL_app, foldL_mask]
    show mt (starP :: pcs (maskL (foldL b))) _ = true
    rw [pcs_mask]; exact mt_star_skip _ _ _ (mt_lits _)) (by simp; omega) (by simp; omega)
  have M4 := m3 (a ++ b ++ c) (maskL a ++ [42] ++ maskL c) true (by
    rw [foldL_app, foldL_app, foldL_app, foldL_app, foldL_mask, foldL_mask, List.append_assoc, pcs_mask_app, List.append_assoc, mt_lits_pre]
    show mt (starP :: pcs (maskL (foldL c))) _ = true
    rw [pcs_mask]; exact mt_star_skip _ _ _ (mt_lits _)) (by simp; omega) (by simp; omega)
  have M5 := m3 [] [63] false rfl (by simp) (by simp)
  have Ka := mk a (by omega)
  have Kb := mk b (by omega)
  have Kc := mk c (by omega)
  simp only [← app_mk] at M2 M3 M4
  obtain ⟨qa, hqa⟩ : ∃ q, q = maskL a := ⟨_, rfl⟩
  obtain ⟨qb, hqb⟩ : ∃ q, q = maskL b := ⟨_, rfl⟩
  obtain ⟨qc, hqc⟩ : ∃ q, q = maskL c := ⟨_, rfl⟩
  rw [← hqa] at ma M2 M4 Ka
  rw [← hqb] at mb M3 Kb
  rw [← hqc] at mc M4 Kc
  have ha' : (⟨a.toArray⟩ : ByteArray).size ≤ 20 := hal
  have hb' : (⟨b.toArray⟩ : ByteArray).size ≤ 20 := hbl
  have hc' : (⟨c.toArray⟩ : ByteArray).size ≤ 20 := hcl
  have hqal : qa.length ≤ 40 := by omega
  have hqa' : (⟨qa.toArray⟩ : ByteArray).size ≤ 40 := by rw [mk_size]; omega
  have hqbl : qb.length ≤ 40 := by omega
  have hqb' : (⟨qb.toArray⟩ : ByteArray).size ≤ 40 := by rw [mk_size]; omega
  have hqcl : qc.length ≤ 40 := by omega
  have hqc' : (⟨qc.toArray⟩ : ByteArray).size ≤ 40 := by rw [mk_size]; omega
  have HCa := Lib.hid ca; have HCb := Lib.hid cb; have HCc := Lib.hid cc
  have H1 := Lib.hid M1; have H2 := Lib.hid M2; have H3 := Lib.hid M3; have H4 := Lib.hid M4; have H5 := Lib.hid M5
  have HKa := Lib.hid Ka; have HKb := Lib.hid Kb; have HKc := Lib.hid Kc
  clear ca cb cc M1 M2 M3 M4 M5 Ka Kb Kc hqa hqb hqc ma mb mc
  go_enter Try.func5, Try.ntmps5
  go_wp2_with fail
  refine (HCa.out _).mono ?_
  rintro e w1 ⟨rfl, rfl⟩
  go_wp2_with fail
  refine (HCb.out _).mono ?_
  rintro e w1 ⟨rfl, rfl⟩
  go_wp2_with fail
  refine (HCc.out _).mono ?_
  rintro e w1 ⟨rfl, rfl⟩
  go_wp2_with fail
  refine (H1.out _).mono ?_
  rintro e w1 ⟨rfl, hb1⟩
  go_wp2_with fail
  refine (HKa.out _).mono ?_
  rintro e w2 ⟨rfl, hb2⟩
  go_wp2_with fail
  refine (H2.out _).mono ?_
  rintro e w3 ⟨rfl, hb3⟩
  go_wp2_with fail
  refine (HKb.out _).mono ?_
  rintro e w4 ⟨rfl, hb4⟩
  go_wp2_with fail
  refine (H3.out _).mono ?_
  rintro e w5 ⟨rfl, hb5⟩
  go_wp2_with fail
  refine (HKa.out _).mono ?_
  rintro e w6 ⟨rfl, hb6⟩
  go_wp2_with fail
  refine (HKc.out _).mono ?_
  rintro e w7 ⟨rfl, hb7⟩
  go_wp2_with fail
  refine (H4.out _).mono ?_
  rintro e w8 ⟨rfl, hb8⟩
  go_wp2_with fail
  refine (H5.out _).mono ?_
  rintro e w9 ⟨rfl, hb9⟩
  go_wp2
  go_ret
  exact ⟨rfl, bt (bt (bt (bt (bt (bt (bt (bt hb1 hb2) hb3) hb4) hb5) hb6) hb7) hb8) hb9⟩

set_option maxHeartbeats 2000000 in
theorem matchStarsWalk (s p q : ByteArray) (w : World) (ws : s.size ≤ maxLen) (wp : p.size ≤ maxLen) (wq : q.size ≤ maxLen) :
    Calls Try.prog 9 #[.string s, .string p, .string q] w fun e w' => e = .returned (.bool true) ∧ Below w.heap.size w w' := by
  obtain ⟨t, htl, ct⟩ := cutN s 60 ws (by omega)
  obtain ⟨a, hal, ca⟩ := cutN p 15 wp (by omega)
  obtain ⟨b, hbl, cb⟩ := cutN q 15 wq (by omega)
  have ma := maskL_length a
  have mb := maskL_length b
  obtain ⟨r, hr⟩ : ∃ r, mt (pcs (foldL (maskL a ++ [42] ++ maskL b))) (foldL t) = r := ⟨_, rfl⟩
  have M1 := m3 t (maskL a ++ [42] ++ maskL b) r hr (by omega) (by simp; omega)
  have M2 := m3 t (maskL a ++ [42, 42] ++ maskL b) r (by
    rw [← hr]
    simp only [foldL_app, foldL_mask, List.append_assoc, pcs_mask_app]
    exact mt_congr_pre _ _ _ _ fun s => mt_star_star _ s) (by omega) (by simp; omega)
  have M3 : ∀ w, Calls Try.prog 15 #[.int .i64 1, .string (⟨#[97, 66, 99]⟩ ++ ⟨t.toArray⟩), .string (⟨#[65, 98, 67]⟩ ++ ⟨t.toArray⟩)] w fun e w' => e = .returned (.tuple #[.bool true, .int .i64 0]) ∧ Below w.heap.size w w' := fun w => by
    have := match1_any ⟨([97, 66, 99] ++ t).toArray⟩ ⟨([65, 98, 67] ++ t).toArray⟩ w (by rw [mk_size]; simp; omega) (by rw [mk_size]; simp; omega)
    rw [← app_mk, ← app_mk] at this
    have e : (foldL (([97, 66, 99] ++ t).toArray.toList) == foldL (([65, 98, 67] ++ t).toArray.toList)) = true := by
      rw [List.toList_toArray, List.toList_toArray, foldL_app, foldL_app]
      exact beq_self_eq_true _
    rw [app_mk, app_mk] at this
    simp only [e] at this
    rw [← app_mk, ← app_mk] at this
    exact this
  have Ka := mk a (by omega)
  have Kb := mk b (by omega)
  simp only [← app_mk] at M1 M2
  obtain ⟨qa, hqa⟩ : ∃ q, q = maskL a := ⟨_, rfl⟩
  obtain ⟨qb, hqb⟩ : ∃ q, q = maskL b := ⟨_, rfl⟩
  rw [← hqa] at ma M1 M2 Ka
  rw [← hqb] at mb M1 M2 Kb
  have ht' : (⟨t.toArray⟩ : ByteArray).size ≤ 60 := htl
  have hqal : qa.length ≤ 30 := by omega
  have hqa' : (⟨qa.toArray⟩ : ByteArray).size ≤ 30 := by rw [mk_size]; omega
  have hqbl : qb.length ≤ 30 := by omega
  have hqb' : (⟨qb.toArray⟩ : ByteArray).size ≤ 30 := by rw [mk_size]; omega
  have HCt := Lib.hid ct; have HCa := Lib.hid ca; have HCb := Lib.hid cb
  have H1 := Lib.hid M1; have H2 := Lib.hid M2; have H3 := Lib.hid M3
  have HKa := Lib.hid Ka; have HKb := Lib.hid Kb
  clear ct ca cb M1 M2 M3 Ka Kb hqa hqb ma mb hr
  go_enter Try.func9, Try.ntmps9
  go_wp2_with fail
  refine (HCt.out _).mono ?_
  rintro e w1 ⟨rfl, rfl⟩
  go_wp2_with fail
  refine (HCa.out _).mono ?_
  rintro e w1 ⟨rfl, rfl⟩
  go_wp2_with fail
  refine (HKa.out _).mono ?_
  rintro e w1 ⟨rfl, hb1⟩
  go_wp2_with fail
  refine (HCb.out _).mono ?_
  rintro e w2 ⟨rfl, rfl⟩
  go_wp2_with fail
  refine (HKb.out _).mono ?_
  rintro e w2 ⟨rfl, hb2⟩
  go_wp2_with fail
  refine (H1.out _).mono ?_
  rintro e w3 ⟨rfl, hb3⟩
  go_wp2_with fail
  refine (H2.out _).mono ?_
  rintro e w4 ⟨rfl, hb4⟩
  go_wp2_with fail
  refine (H3.out _).mono ?_
  rintro e w5 ⟨rfl, hb5⟩
  go_wp2
  go_ret
  exact ⟨rfl, bt (bt (bt (bt hb1 hb2) hb3) hb4) hb5⟩
end Go.Proofs.Ytlghlcekakbmnaa
