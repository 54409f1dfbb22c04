/-
  DERIVED. 'command' of lmtp's session: the walk.
-/
import Derived.Test.YtdhepaeephmhiaaDoorLmtp5
namespace Go.Proofs.YtdhepaeephmhiaaDoor
open Go.RowKit
variable {LB : Nat}

/-- a session begins anew -/
theorem zero_done {w0 w : World} {R : Nat} {a0 a1 a2 a3 a4 a5 kv : Value} (H : Has w R [a0, a1, a2, a3, a4, a5]) (k : Nat) (hk : kv = .int .i64 k) (G : w0.grownBy w (some R)) :
    SesPost LB R (ses0 k) w0 ((((((w.setCell ⟨R, 0, none⟩ kv).setCell ⟨R, 1, none⟩ (.string ⟨#[]⟩)).setCell ⟨R, 2, none⟩ (.string ⟨#[]⟩)).setCell ⟨R, 3, none⟩ (.slice none 0 0)).setCell ⟨R, 4, none⟩ (.string ⟨#[]⟩)).setCell ⟨R, 5, none⟩ (.bool false)) := by
  subst hk
  refine SesPost.of (v := .slice none 0 0) ⟨(((((H.set' (i := 0) _ (by simp)).set' (i := 1) _ (by simp)).set' (i := 2) _ (by simp)).set' (i := 3) _ (by simp)).set' (i := 4) _ (by simp)).set' (i := 5) _ (by simp), SAt.nil _ _ _⟩ ?_
  exact Go.Lib.grownBy_setB (Go.Lib.grownBy_setB (Go.Lib.grownBy_setB (Go.Lib.grownBy_setB (Go.Lib.grownBy_setB (Go.Lib.grownBy_setB G 0 _) 1 _) 2 _) 3 _) 4 _) 5 _

def wordC (s : Ses) (fl : List UInt8) : Ses × Int :=
  if fl = [100, 97, 116, 97] then (if s.step ≠ 3 then (s, 503) else (⟨4, s.frm, s.rcp, s.text, s.large⟩, 354))
  else if fl = [114, 115, 101, 116] then (ses0 (min s.step 1), 250)
  else if fl = [110, 111, 111, 112] then (s, 250)
  else if fl = [113, 117, 105, 116] then (ses0 5, 221)
  else (s, 500)
section
variable {s : Ses} {line : List UInt8} {known : List (List UInt8)}
theorem cmd_lhlo {name : List UInt8} (h : ¬ 300 < line.length) (h1 : restL line wLHLO = some name) : commandS s line known = if chk [120] name ≠ 0 then (s, 501) else (ses0 1, 250) := by
  unfold commandS; rw [if_neg h, h1]
theorem cmd_mail {t : List UInt8} (h : ¬ 300 < line.length) (h1 : restL line wLHLO = none) (h2 : restL line wMAIL = some t) : commandS s line known = mailS s t := by
  unfold commandS; rw [if_neg h, h1]; simp only; rw [h2]
theorem cmd_rcpt {t : List UInt8} (h : ¬ 300 < line.length) (h1 : restL line wLHLO = none) (h2 : restL line wMAIL = none) (h3 : restL line wRCPT = some t) : commandS s line known = rcptS s t known := by
  unfold commandS; rw [if_neg h, h1]; simp only; rw [h2]; simp only; rw [h3]
theorem cmd_word (h : ¬ 300 < line.length) (h1 : restL line wLHLO = none) (h2 : restL line wMAIL = none) (h3 : restL line wRCPT = none) : commandS s line known = wordC s (foldL line) := by
  unfold commandS; rw [if_neg h, h1]; simp only; rw [h2]; simp only; rw [h3]; rfl
theorem word_data : wordC s [100, 97, 116, 97] = if s.step ≠ 3 then (s, 503) else (⟨4, s.frm, s.rcp, s.text, s.large⟩, 354) := rfl
theorem word_rset : wordC s [114, 115, 101, 116] = (ses0 (min s.step 1), 250) := rfl
theorem word_noop : wordC s [110, 111, 111, 112] = (s, 250) := rfl
theorem word_quit : wordC s [113, 117, 105, 116] = (ses0 5, 221) := rfl
theorem word_else {fl : List UInt8} (e1 : (fl == [100, 97, 116, 97]) = false) (e2 : (fl == [114, 115, 101, 116]) = false) (e3 : (fl == [110, 111, 111, 112]) = false) (e4 : (fl == [113, 117, 105, 116]) = false) : wordC s fl = (s, 500) := by
  unfold wordC
  rw [if_neg (beq_eq_false_iff_ne.1 e1), if_neg (beq_eq_false_iff_ne.1 e2), if_neg (beq_eq_false_iff_ne.1 e3), if_neg (beq_eq_false_iff_ne.1 e4)]
end

set_option maxHeartbeats 8000000 in
set_option maxRecDepth 20000 in
theorem command_any (R : Nat) (v : Value) (s : Ses) (S : ByteArray) (vk : Value) (known : List (List UInt8)) (Fk : Dom) (m : Int) (w : World) (h : SesAt LB w R v s) (hk : SAt cStr w Fk vk known) (hkl : known.length ≤ 1000) (h5 : s.rcp.length ≤ 5) (hs : S.size ≤ 1000000) (hLB : LB ≤ w.heap.size) (hm : w.cell? ⟨0, 0, none⟩ = some (.int .i64 m)) :
    Calls Tryd.prog 25 #[.pointer (some ⟨R, 0, none⟩), .string S, vk] w fun e w' => e = .returned (.int .i64 (commandS s S.data.toList known).2) ∧ SesPost LB R (commandS s S.data.toList known).1 w w' := by
  have hls : S.data.toList.length = S.size := by simp
  have H := Lib.hid h; have HK := Lib.hid hk; have HM := Lib.hid hm
  obtain ⟨Gk, ck, rfl, hck⟩ := hk.form
  obtain ⟨Gv, cv, rfl, hcv⟩ := h.rcp.form
  clear h hk hm
  by_cases h300 : 300 < S.size
  · have d : decide ((300 : Int) < S.size) = true := decide_eq_true (by omega)
    have HO : Hid (commandS s S.data.toList known = (s, 500)) := by unfold Hid commandS; rw [if_pos (by omega)]
    clear hls
    go_enter Tryd.func25, Tryd.ntmps25
    go_wp2_with fail
    go_ret
    exact ⟨by rw [HO.out]; rfl, by rw [HO.out]; exact SesPost.of H.out (World.grownBy.refl _ _)⟩
  have d : decide ((300 : Int) < S.size) = false := decide_eq_false (by omega)
  have hn300 : ¬ 300 < S.data.toList.length := by omega
  have hrl : ∀ {w t : List UInt8}, restL S.data.toList w = some t → t.length ≤ 300 := by
    intro w t ht
    unfold restL at ht
    split at ht
    · cases ht
    · split at ht
      · rw [← Option.some.inj ht, List.length_drop]; omega
      · cases ht
  cases h1 : restL S.data.toList wLHLO with
  | some name =>
    have hnl := hrl h1
    have HR1 := Lib.hid (rest_some S ⟨wLHLO.toArray⟩ name w (by omega) (by decide) h1)
    have HC : Hid (∀ w', w'.cell? ⟨0, 0, none⟩ = some (.int .i64 m) → Calls Tryd.prog 43 #[.agg #[.string ⟨#[120]⟩, .string ⟨name.toArray⟩]] w' fun e w'' => e = .returned (.int .i64 (chk [120] name)) ∧ Below w'.heap.size w' w'') := fun w' hm => check_any ⟨#[120]⟩ ⟨name.toArray⟩ m w' (by decide) (by show name.toArray.size ≤ _; simp; omega) hm
    have HO := Lib.hid (cmd_lhlo (s := s) (known := known) hn300 h1)
    clear h1 hrl hls hn300
    go_enter Tryd.func25, Tryd.ntmps25
    go_wp2_with fail
    refine HR1.out.mono ?_
    rintro e w1 ⟨rfl, hb1⟩
    have H1 := Lib.hid (H.out.down hb1); have HB1 := Lib.hid hb1; have HM1 := Lib.hid (moved HM.out hb1 (Nat.le_refl _))
    clear hb1 HR1 H
    go_wp2_with fail
    refine (HC.out _ HM1.out).mono ?_
    rintro e w2 ⟨rfl, hb2⟩
    have H2 := Lib.hid (H1.out.down hb2); have HB2 := Lib.hid (bt HB1.out hb2)
    clear hb2 HC H1 HB1
    by_cases hc : chk [120] name = 0
    · have HO2 : Hid (commandS s S.data.toList known = (ses0 1, 250)) := by unfold Hid; rw [HO.out, if_neg (by simpa using hc)]
      have HZ := Lib.hid (zero_done (LB := LB) H2.out.six 1 rfl (gb (R := R) HB2.out))
      obtain ⟨c0, c1, c2, c3, c4, c5⟩ := H2.out.six.six
      obtain ⟨f0, f1, f2, f3, f4, f5⟩ := H2.out.six.six_free
      rw [hc]
      clear HO hc
      go_wp2_with fail
      go_ret
      exact ⟨by rw [HO2.out]; rfl, by rw [HO2.out]; exact HZ.out⟩
    · have HO2 : Hid (commandS s S.data.toList known = (s, 501)) := by unfold Hid; rw [HO.out, if_pos hc]
      have q : ((chk [120] name : Int) == 0) = false := by simpa using hc
      have q' : ((chk [120] name : Int) != 0) = true := by simpa using hc
      clear HO hc
      go_wp2_with fail
      go_ret
      exact ⟨by rw [HO2.out]; rfl, by rw [HO2.out]; exact SesPost.of H2.out (gb HB2.out)⟩
  | none =>
    have HR1 : Hid (∀ w', Calls Tryd.prog 45 #[.string S, .string ⟨wLHLO.toArray⟩] w' fun e w'' => e = .returned (.tuple #[.string ⟨#[]⟩, .bool false]) ∧ Below w'.heap.size w' w'') := fun w' => rest_none S ⟨wLHLO.toArray⟩ w' (by omega) (by decide) h1
    cases h2 : restL S.data.toList wMAIL with
    | some t =>
      have hnl := hrl h2
      have HR2 : Hid (∀ w', Calls Tryd.prog 45 #[.string S, .string ⟨wMAIL.toArray⟩] w' fun e w'' => e = .returned (.tuple #[.string ⟨t.toArray⟩, .bool true]) ∧ Below w'.heap.size w' w'') := fun w' => rest_some S ⟨wMAIL.toArray⟩ t w' (by omega) (by decide) h2
      have HO := Lib.hid (cmd_mail (s := s) (known := known) hn300 h1 h2)
      clear h1 h2 hrl hls hn300
      go_enter Tryd.func25, Tryd.ntmps25
      go_wp2_with fail
      refine (HR1.out _).mono ?_
      rintro e w1 ⟨rfl, hb1⟩
      have H1 := Lib.hid (H.out.down hb1); have HB1 := Lib.hid hb1; have HM1 := Lib.hid (moved HM.out hb1 (Nat.le_refl _))
      clear hb1 HR1 H
      go_wp2_with fail
      refine (HR2.out _).mono ?_
      rintro e w2 ⟨rfl, hb2⟩
      have H2 := Lib.hid (H1.out.down hb2); have HB2 := Lib.hid (bt HB1.out hb2); have HM2 := Lib.hid (moved HM1.out hb2 (Nat.le_refl _))
      clear hb2 HR2 H1 HB1 HM1
      go_wp2_with fail
      refine (mail_any R _ s ⟨t.toArray⟩ m _ H2.out (by show t.toArray.size ≤ _; simp; omega) HM2.out).mono ?_
      rintro e w3 ⟨rfl, ⟨v3, h3⟩, hg3⟩
      have HF := Lib.hid (SesPost.of h3 (Go.Lib.grownBy_trans (gb (R := R) HB2.out) hg3))
      have HO2 : Hid (commandS s S.data.toList known = mailS s t) := HO.out
      clear h3 hg3 HO
      go_wp2_with fail
      go_ret
      exact ⟨by rw [HO2.out]; rfl, by rw [HO2.out]; exact HF.out⟩
    | none =>
      have HR2 : Hid (∀ w', Calls Tryd.prog 45 #[.string S, .string ⟨wMAIL.toArray⟩] w' fun e w'' => e = .returned (.tuple #[.string ⟨#[]⟩, .bool false]) ∧ Below w'.heap.size w' w'') := fun w' => rest_none S ⟨wMAIL.toArray⟩ w' (by omega) (by decide) h2
      cases h3 : restL S.data.toList wRCPT with
      | some t =>
        have hnl := hrl h3
        have HR3 : Hid (∀ w', Calls Tryd.prog 45 #[.string S, .string ⟨wRCPT.toArray⟩] w' fun e w'' => e = .returned (.tuple #[.string ⟨t.toArray⟩, .bool true]) ∧ Below w'.heap.size w' w'') := fun w' => rest_some S ⟨wRCPT.toArray⟩ t w' (by omega) (by decide) h3
        have HO := Lib.hid (cmd_rcpt (s := s) (known := known) hn300 h1 h2 h3)
        clear h1 h2 h3 hrl hls hn300
        go_enter Tryd.func25, Tryd.ntmps25
        go_wp2_with fail
        refine (HR1.out _).mono ?_
        rintro e w1 ⟨rfl, hb1⟩
        have HB1 := Lib.hid hb1
        clear hb1 HR1
        go_wp2_with fail
        refine (HR2.out _).mono ?_
        rintro e w2 ⟨rfl, hb2⟩
        have HB2 := Lib.hid (bt HB1.out hb2)
        clear hb2 HR2 HB1
        go_wp2_with fail
        refine (HR3.out _).mono ?_
        rintro e w3 ⟨rfl, hb3⟩
        have HB3 := Lib.hid (bt HB2.out hb3); have H3 := Lib.hid (H.out.down (bt HB2.out hb3)); have HM3 := Lib.hid (moved HM.out (bt HB2.out hb3) (Nat.le_refl _)); have HK3 := Lib.hid (HK.out.down (bt HB2.out hb3))
        clear hb3 HR3 HB2
        go_wp2_with fail
        refine (rcpt_any R _ s ⟨t.toArray⟩ _ known Fk m _ H3.out HK3.out hkl h5 (by show t.toArray.size ≤ _; simp; omega) (by have := HB3.out.size; omega) HM3.out).mono ?_
        rintro e w4 ⟨rfl, ⟨v4, h4⟩, hg4⟩
        have HF := Lib.hid (SesPost.of h4 (Go.Lib.grownBy_trans (gb (R := R) HB3.out) hg4))
        have HO2 : Hid (commandS s S.data.toList known = rcptS s t known) := HO.out
        clear h4 hg4 HO
        go_wp2_with fail
        go_ret
        exact ⟨by rw [HO2.out]; rfl, by rw [HO2.out]; exact HF.out⟩
      | none =>
        have HO := Lib.hid (cmd_word (s := s) (known := known) hn300 h1 h2 h3)
        have HR3 : Hid (∀ w', Calls Tryd.prog 45 #[.string S, .string ⟨wRCPT.toArray⟩] w' fun e w'' => e = .returned (.tuple #[.string ⟨#[]⟩, .bool false]) ∧ Below w'.heap.size w' w'') := fun w' => rest_none S ⟨wRCPT.toArray⟩ w' (by omega) (by decide) h3
        have HFO := Lib.hid (fun w' => Fold_any S w' (by omega))
        obtain ⟨fl, hfl⟩ : ∃ fl, fl = foldL S.data.toList := ⟨_, rfl⟩
        simp only [← hfl] at HO HFO
        clear h1 h2 h3 hrl hls hfl hn300
        have cse : ∀ (c : List UInt8), fl = c → (∀ k : List UInt8, (fl == k) = (c == k)) := fun c h k => by rw [h]
        have HEND : Hid (∀ w3, Below w.heap.size w w3 → SesAt LB w3 R (.slice Gv s.rcp.length cv) s) := fun w3 hb => H.out.down hb
        have hcases : (fl = [100, 97, 116, 97]) ∨ (fl = [114, 115, 101, 116]) ∨ (fl = [110, 111, 111, 112]) ∨ (fl = [113, 117, 105, 116]) ∨ ((fl == [100, 97, 116, 97]) = false ∧ (fl == [114, 115, 101, 116]) = false ∧ (fl == [110, 111, 111, 112]) = false ∧ (fl == [113, 117, 105, 116]) = false) := by
          by_cases e1 : fl = [100, 97, 116, 97]
          · exact .inl e1
          by_cases e2 : fl = [114, 115, 101, 116]
          · exact .inr (.inl e2)
          by_cases e3 : fl = [110, 111, 111, 112]
          · exact .inr (.inr (.inl e3))
          by_cases e4 : fl = [113, 117, 105, 116]
          · exact .inr (.inr (.inr (.inl e4)))
          exact .inr (.inr (.inr (.inr ⟨beq_eq_false_iff_ne.2 e1, beq_eq_false_iff_ne.2 e2, beq_eq_false_iff_ne.2 e3, beq_eq_false_iff_ne.2 e4⟩)))
        have HCS := Lib.hid hcases
        clear cse hcases
        go_enter Tryd.func25, Tryd.ntmps25
        go_wp2_with fail
        refine (HR1.out _).mono ?_
        rintro e w1 ⟨rfl, hb1⟩
        have HB1 := Lib.hid hb1
        clear hb1 HR1
        go_wp2_with fail
        refine (HR2.out _).mono ?_
        rintro e w2 ⟨rfl, hb2⟩
        have HB2 := Lib.hid (bt HB1.out hb2)
        clear hb2 HR2 HB1
        go_wp2_with fail
        refine (HR3.out _).mono ?_
        rintro e w3 ⟨rfl, hb3⟩
        have HB3 := Lib.hid (bt HB2.out hb3)
        clear hb3 HR3 HB2
        go_wp2_with fail
        refine (HFO.out _).mono ?_
        rintro e w4 ⟨rfl, hb4⟩
        have HB4 := Lib.hid (bt HB3.out hb4); have H4 := Lib.hid (HEND.out _ (bt HB3.out hb4))
        obtain ⟨c0, c1, c2, c3, c4, c5⟩ := H4.out.six.six
        obtain ⟨f0, f1, f2, f3, f4, f5⟩ := H4.out.six.six_free
        clear hb4 HFO HB3 HEND
        have HCS' := HCS.out
        clear HCS
        rcases HCS' with rfl | rfl | rfl | rfl | ⟨e1, e2, e3, e4⟩
        · by_cases h3 : s.step = 3
          · have HO2 : Hid (commandS s S.data.toList known = (⟨4, s.frm, s.rcp, s.text, s.large⟩, 354)) := by unfold Hid; rw [HO.out, word_data, if_neg (by simpa using h3)]
            have hg : w4.grownBy (w4.setCell ⟨R, 0, none⟩ (.int .i64 4)) (some R) := Go.Lib.grownBy_setB (World.grownBy.refl w4 (some R)) 0 _
            have HF : Hid (SesPost LB R ⟨4, s.frm, s.rcp, s.text, s.large⟩ w (w4.setCell ⟨R, 0, none⟩ (.int .i64 4))) := SesPost.of ⟨H4.out.six.set' (i := 0) _ (by simp), rcp_kept H4.out.rcp hg⟩ (Go.Lib.grownBy_trans (gb (R := R) HB4.out) hg)
            rw [h3] at c0
            clear HO h3 hg
            go_wp2_with fail
            go_ret
            exact ⟨by rw [HO2.out]; rfl, by rw [HO2.out]; exact HF.out⟩
          · have HO2 : Hid (commandS s S.data.toList known = (s, 503)) := by unfold Hid; rw [HO.out, word_data, if_pos h3]
            have q : ((s.step : Int) == 3) = false := by simp; omega
            have q' : ((s.step : Int) != 3) = true := by simp; omega
            clear HO h3
            go_wp2_with fail
            go_ret
            exact ⟨by rw [HO2.out]; rfl, by rw [HO2.out]; exact SesPost.of H4.out (gb HB4.out)⟩
        · have HO2 : Hid (commandS s S.data.toList known = (ses0 (min s.step 1), 250)) := by unfold Hid; rw [HO.out, word_rset]
          have HZ := Lib.hid (zero_done (LB := LB) (kv := .int .i64 (min (s.step : Int) 1)) H4.out.six (min s.step 1) (by congr 1; omega) (gb (R := R) HB4.out))
          clear HO
          go_wp2_with fail
          go_ret
          exact ⟨by rw [HO2.out]; rfl, by rw [HO2.out]; exact HZ.out⟩
        · have HO2 : Hid (commandS s S.data.toList known = (s, 250)) := by unfold Hid; rw [HO.out, word_noop]
          clear HO
          go_wp2_with fail
          go_ret
          exact ⟨by rw [HO2.out]; rfl, by rw [HO2.out]; exact SesPost.of H4.out (gb HB4.out)⟩
        · have HO2 : Hid (commandS s S.data.toList known = (ses0 5, 221)) := by unfold Hid; rw [HO.out, word_quit]
          have HZ := Lib.hid (zero_done (LB := LB) H4.out.six 5 rfl (gb (R := R) HB4.out))
          clear HO
          go_wp2_with fail
          go_ret
          exact ⟨by rw [HO2.out]; rfl, by rw [HO2.out]; exact HZ.out⟩
        · have HO2 : Hid (commandS s S.data.toList known = (s, 500)) := by
            unfold Hid; rw [HO.out, word_else e1 e2 e3 e4]
          clear HO
          go_wp2_with fail
          go_ret
          exact ⟨by rw [HO2.out]; rfl, by rw [HO2.out]; exact SesPost.of H4.out (gb HB4.out)⟩
end Go.Proofs.YtdhepaeephmhiaaDoor
